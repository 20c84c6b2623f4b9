/- The law FnExactRunTagByMarkov returns true for every input, and each argument reads afterwards as before: the proof, part 6. No conditions. -/
import Derived.Test.YtcfkjigapnknnaaRunTagByMarkovZe
import Derived.Laws.CopyOwn
/- TagToMarkov on both sides. -/
namespace Go.Proofs.Ytcfkjigapnknnaa
open Go.RowKit
set_option linter.all false

theorem tagToMarkov_bad {d : Int} {ws : List (List Int)} {hs : List Int} (h : validTag d ws hs = false) : tagToMarkov d ws hs = ([], 1) := by unfold tagToMarkov; rw [h]; rfl
theorem tagToMarkov_good {d : Int} {ws : List (List Int)} {hs : List Int} (h : validTag d ws hs = true) : tagToMarkov d ws hs = tmk d ws hs := by unfold tagToMarkov tmk; rw [if_pos h]

set_option maxRecDepth 100000 in
set_option maxHeartbeats 1000000 in
theorem specTagToMarkov_any (d : Int) (bw nw cw : Nat) (us : List Value) (ws : List (List Int)) (bh nh ch : Nat) (hs : List Int) (w : World) (wf : Wf64 d)
    (sw : Sl w bw 0 us) (sr : Srcs 1 oneI w us ws) (lw : ws.length = nw) (hnw : nw ≤ 1048576) (hcw : nw ≤ cw) (hsum : sumLen ws ≤ 1048576) (au : AdrW us) (sh : Sl w bh 0 (hs.map (.int .i64))) (lh : hs.length = nh) (hnh : nh ≤ 1048576) (hch : nh ≤ ch) :
    Calls Try.prog 30 #[.agg #[.int .i64 d, .slice (some ⟨bw, 0, none⟩) nw cw, .slice (some ⟨bh, 0, none⟩) nh ch]] w fun e w' => ∃ V es, e = .returned (.tuple #[V, .int .i64 (tagToMarkov d ws hs).2]) ∧ SGrid kndMarkovRule w.heap.size w'.heap.size 117 2 1 V es w' ∧ es.map (·.d) = (tagToMarkov d ws hs).1 ∧ Below w.heap.size w w' := by
  obtain ⟨w1, HW1, B1, x1⟩ := al1 w (.cells #[.int .i64 d, .slice (some ⟨bw, 0, none⟩) nw cw, .slice (some ⟨bh, 0, none⟩) nh ch] 61)
  have t0 : w1.cell? ⟨w.heap.size, 0, none⟩ = some (.int .i64 d) := by rw [cell_of_heap x1]; rfl
  have t1 : w1.cell? ⟨w.heap.size, 1, none⟩ = some (.slice (some ⟨bw, 0, none⟩) nw cw) := by rw [cell_of_heap x1]; rfl
  have t2 : w1.cell? ⟨w.heap.size, 2, none⟩ = some (.slice (some ⟨bh, 0, none⟩) nh ch) := by rw [cell_of_heap x1]; rfl
  have sw1 := sw.below' B1
  have sr1 := sr.below B1
  have sh1 := sh.below' B1
  have HLW := Lib.hid lw; have HLH := Lib.hid lh; have HSUM := Lib.hid hsum; have HAU := Lib.hid au
  clear x1 sw sr sh lw lh hsum au
  rcases Bool.eq_false_or_eq_true (validTag d ws hs) with hv | hv
  rotate_left
  · have HV := Lib.hid hv
    have HF : Hid (tagToMarkov d ws hs = ([], 1)) := tagToMarkov_bad hv
    clear hv
    have HC := Lib.hid (l09Is_is w.heap.size d bw 0 nw cw us ws bh 0 nh ch hs false HV.out w1 t0 t1 t2 sw1 sr1 HLW.out hnw HSUM.out sh1 HLH.out hnh)
    clear t0 t1 t2
    go_enter Try.func30, Try.ntmps30
    go_wp2_with fail
    rw [← HW1.out]
    refine HC.out.mono ?_
    rintro e w' ⟨rfl, q, rfl⟩
    go_wp2_with fail
    go_ret2
    exact ⟨_, [], ends2 (by rw [HF.out]), (MkRow.nilv _ _).acc.grid, by rw [HF.out]; rfl, below_drewN B1 q⟩
  have HV := Lib.hid hv
  have HF : Hid (tagToMarkov d ws hs = tmk d ws hs) := tagToMarkov_good hv
  clear hv
  have HC := Lib.hid (l09Is_is w.heap.size d bw 0 nw cw us ws bh 0 nh ch hs true HV.out w1 t0 t1 t2 sw1 sr1 HLW.out hnw HSUM.out sh1 HLH.out hnh)
  have HR := Lib.hid (fun q : Nat => l16TagRules_any w.heap.size d bw 0 nw cw us ws bh 0 nh ch hs (w1.drewN q) HV.out t0 t1 t2 sw1 sr1 HLW.out hnw HSUM.out HAU.out sh1 HLH.out hnh)
  clear t0 t1 t2 sw1 sr1 sh1
  obtain ⟨ok, hok⟩ : ∃ ok, tagOk d ws hs = ok := ⟨_, rfl⟩
  have HOK := Lib.hid hok; clear hok
  cases ok
  · have HF2 : Hid (tmk d ws hs = ([], 5)) := tmk_no HOK.out
    go_enter Try.func30, Try.ntmps30
    go_wp2_with fail
    rw [← HW1.out]
    refine HC.out.mono ?_
    rintro e w' ⟨rfl, q, rfl⟩
    go_wp2_with fail
    refine (HR.out q).mono ?_
    rw [HOK.out]
    rintro e w2 ⟨V, es, xs, rfl, R, -, b2⟩
    have B2 := below_step (below_drewN B1 q) b2
    clear R
    go_wp2_with fail
    go_ret2
    exact ⟨_, [], ends2 (by rw [HF.out, HF2.out]), (MkRow.nilv _ _).acc.grid, by rw [HF.out, HF2.out]; rfl, B2⟩
  · have HF2 : Hid (tmk d ws hs = (tagRules d ws hs, 0)) := tmk_yes HOK.out
    go_enter Try.func30, Try.ntmps30
    go_wp2_with fail
    rw [← HW1.out]
    refine HC.out.mono ?_
    rintro e w' ⟨rfl, q, rfl⟩
    go_wp2_with fail
    refine (HR.out q).mono ?_
    rw [HOK.out]
    rintro e w2 ⟨V, es, xs, rfl, R, hx, b2⟩
    have HX := Lib.hid (hx rfl); clear hx
    have B2 := below_step (below_drewN B1 q) b2
    have R2 := R.base (lo' := w.heap.size) B1.size
    obtain ⟨A, c, rfl⟩ := own_form R.acc.own
    clear R
    go_wp2_with fail
    go_ret2
    exact ⟨_, es, ends2 (by rw [HF.out, HF2.out]), R2.acc.grid, by rw [HF.out, HF2.out, R2.map, HX.out], B2⟩

set_option maxRecDepth 100000 in
set_option maxHeartbeats 1000000 in
theorem implTagToMarkov_any (d : Int) (bw nw cw : Nat) (us : List Value) (ws : List (List Int)) (bh nh ch : Nat) (hs : List Int) (w : World) (wf : Wf64 d)
    (sw : Sl w bw 0 us) (sr : Srcs 1 oneI w us ws) (lw : ws.length = nw) (hnw : nw ≤ 1048576) (hcw : nw ≤ cw) (hsum : sumLen ws ≤ 1048576) (au : AdrW us) (sh : Sl w bh 0 (hs.map (.int .i64))) (lh : hs.length = nh) (hnh : nh ≤ 1048576) (hch : nh ≤ ch) :
    Calls Try.prog 32 #[.agg #[.int .i64 d, .slice (some ⟨bw, 0, none⟩) nw cw, .slice (some ⟨bh, 0, none⟩) nh ch]] w fun e w' => ∃ V es, e = .returned (.tuple #[V, .int .i64 (tagToMarkov d ws hs).2]) ∧ SGrid kndMarkovRule w.heap.size w'.heap.size 117 2 1 V es w' ∧ es.map (·.d) = (tagToMarkov d ws hs).1 ∧ Below w.heap.size w w' := by
  obtain ⟨w1, HW1, B1, x1⟩ := al1 w (.cells #[.int .i64 d, .slice (some ⟨bw, 0, none⟩) nw cw, .slice (some ⟨bh, 0, none⟩) nh ch] 61)
  have t0 : w1.cell? ⟨w.heap.size, 0, none⟩ = some (.int .i64 d) := by rw [cell_of_heap x1]; rfl
  have t1 : w1.cell? ⟨w.heap.size, 1, none⟩ = some (.slice (some ⟨bw, 0, none⟩) nw cw) := by rw [cell_of_heap x1]; rfl
  have t2 : w1.cell? ⟨w.heap.size, 2, none⟩ = some (.slice (some ⟨bh, 0, none⟩) nh ch) := by rw [cell_of_heap x1]; rfl
  have sw1 := sw.below' B1
  have sr1 := sr.below B1
  have sh1 := sh.below' B1
  have HLW := Lib.hid lw; have HLH := Lib.hid lh; have HSUM := Lib.hid hsum; have HAU := Lib.hid au
  clear x1 sw sr sh lw lh hsum au
  rcases Bool.eq_false_or_eq_true (validTag d ws hs) with hv | hv
  rotate_left
  · have HV := Lib.hid hv
    have HF : Hid (tagToMarkov d ws hs = ([], 1)) := tagToMarkov_bad hv
    clear hv
    go_enter Try.func32, Try.ntmps32
    go_wp2_with fail
    rw [← HW1.out]
    refine (implValidTag_is d bw 0 nw cw us ws bh 0 nh ch hs false HV.out w1 sw1 sr1 HLW.out hnw HSUM.out sh1 HLH.out hnh).mono ?_
    rintro e w2 ⟨rfl, b2⟩
    have B2 := below_step B1 b2
    go_wp2_with fail
    go_ret2
    exact ⟨_, [], ends2 (by rw [HF.out]), (MkRow.nilv _ _).acc.grid, by rw [HF.out]; rfl, B2⟩
  have HV := Lib.hid hv
  have HF : Hid (tagToMarkov d ws hs = tmk d ws hs) := tagToMarkov_good hv
  clear hv
  go_enter Try.func32, Try.ntmps32
  go_wp2_with fail
  rw [← HW1.out]
  refine (implValidTag_is d bw 0 nw cw us ws bh 0 nh ch hs true HV.out w1 sw1 sr1 HLW.out hnw HSUM.out sh1 HLH.out hnh).mono ?_
  rintro e w2 ⟨rfl, b2⟩
  have B2 := below_step B1 b2
  have m0 := cell_step (by exact t0) b2
  have m1 := cell_step (by exact t1) b2
  have m2 := cell_step (by exact t2) b2
  have sw2 := sw1.below' b2
  have sr2 := sr1.below b2
  have sh2 := sh1.below' b2
  clear t0 t1 t2 sw1 sr1 sh1 b2
  go_wp2_with fail
  refine (implTagMk_any d bw 0 nw cw us ws bh 0 nh ch hs w2 HV.out sw2 sr2 HLW.out hnw HSUM.out HAU.out sh2 HLH.out hnh).mono ?_
  rintro e w3 ⟨V, es, rfl, R, b3⟩
  have B3 := below_step B2 b3
  have R3 := R.base (lo' := w.heap.size) B2.size
  obtain ⟨A, c, rfl⟩ := own_form R.acc.own
  clear R
  go_wp2_with fail
  go_ret2
  exact ⟨_, es, ends2 (by rw [HF.out]), R3.acc.grid, by rw [HF.out, R3.map], B3⟩
end Go.Proofs.Ytcfkjigapnknnaa

/- StepMarkov and RunMarkov of the reference. -/
namespace Go.Proofs.Ytcfkjigapnknnaa
open Go.RowKit
set_option linter.all false

theorem ends3 {v : Value} {a b c d : Int} (h : a = b) (k : c = d) : Ending.returned (.tuple #[v, .int .i64 a, .int .i64 c]) = .returned (.tuple #[v, .int .i64 b, .int .i64 d]) := by rw [h, k]
theorem ret2 {a b c d : Int} (h : a = b) (k : c = d) : Ending.returned (.tuple #[.int .i64 a, .int .i64 c]) = .returned (.tuple #[.int .i64 b, .int .i64 d]) := by rw [h, k]

set_option maxRecDepth 100000 in
set_option maxHeartbeats 1000000 in
theorem l10Rule_any (b off n c : Nat) (es : List EMarkovRule) (xs : List DMarkovRule) (b1 o1 n1 c1 : Nat) (x : List Int) (w : World) (hs : Sl w b off (rows EMarkovRule.vs es)) (hr : RcsMarkovRule w es) (hd : es.map (·.d) = xs) (hl : xs.length = n) (hn : n ≤ 1048576) (ht : sumMarkovRule xs ≤ 1048576) (hs1 : Sl w b1 o1 (x.map (.int .i64))) (hl1 : x.length = n1) (hn1 : n1 ≤ 1048576) (hc1 : n1 ≤ c1) :
    Calls Try.prog 85 #[.slice (some ⟨b, off, none⟩) n c, .slice (some ⟨b1, o1, none⟩) n1 c1] w fun e w' => e = .returned (.tuple #[.int .i64 (ruleMk x 0 xs).1, .int .i64 ((ruleMk x 0 xs).2 : Int)]) ∧ ∃ q, w' = w.drewN q := by
  have HL := Lib.hid hl; have HD := Lib.hid hd; have HT := Lib.hid ht
  have HE : Hid (es.length = n) := by unfold Hid; rw [← hl, ← hd, List.length_map]
  have HL1 := Lib.hid hl1
  clear hl hd ht hl1
  go_enter Try.func85, Try.ntmps85
  go_wp2_with fail
  go_loopw [6] (fun i wr => ∃ k q : Nat, k ≤ n ∧ i = .int .i64 k ∧ wr = w.drewN q ∧ Hid (∀ j r, j < k → xs[j]? = some r → findMk r x = -1)) (fun i _ => n - (intOf i).toNat)
  case atStart => exact ⟨0, 0, Nat.zero_le _, rfl, rfl, by intro j x hj; omega⟩
  case round =>
    obtain ⟨k, q, hk, rfl, rfl, HR⟩ := hrel
    by_cases hlt : k < n
    rotate_left
    · have HF : Hid (ruleMk x 0 xs = (-1, 0)) := by
        unfold Hid; apply ruleMk_none; intro j r hj; exact HR.out j r (by have := (List.getElem?_eq_some_iff.1 hj).1; have := HL.out; omega) hj
      go_wp2_with fail
      go_ret2
      exact ⟨ret2 (by rw [HF.out]) (by rw [HF.out]; rfl), _, rfl⟩
    obtain ⟨e, HX⟩ := hget HE hlt
    have HXD : Hid (xs[k]? = some e.d) := by unfold Hid; rw [← HD.out, List.getElem?_map, HX.out]; rfl
    have hwl : wlMarkovRule e.d ≤ 1048576 := Nat.le_trans (sumMarkovRule_at HXD.out) HT.out
    obtain ⟨⟨g0, cp0, eu0, hcp0, s0⟩, ⟨g1, cp1, eu1, hcp1, s1⟩, -⟩ := hr.at (List.mem_of_getElem? HX.out)
    have p0 : w.cell? ⟨b, off + k * 3, none⟩ = some e.u0 := Sl.rec (f := EMarkovRule.vs) (s := 3) (fun _ => rfl) hs HX.out (j := 0) rfl
    have p1 : w.cell? ⟨b, off + k * 3 + 1, none⟩ = some e.u1 := Sl.rec (f := EMarkovRule.vs) (s := 3) (fun _ => rfl) hs HX.out (j := 1) rfl
    have p2 : w.cell? ⟨b, off + k * 3 + 2, none⟩ = some (.bool e.d.f2) := Sl.rec (f := EMarkovRule.vs) (s := 3) (fun _ => rfl) hs HX.out (j := 2) rfl
    rw [eu0] at p0
    rw [eu1] at p1
    clear eu0 eu1
    obtain ⟨⟨f0, f1, f2⟩, u0, u1⟩ := e
    dsimp only at p0 p1 p2 s0 s1 hwl HXD hcp0 hcp1
    simp only [wlMarkovRule] at hwl
    obtain ⟨m0, hm0⟩ : ∃ q, q = f0.length := ⟨_, rfl⟩
    obtain ⟨m1, hm1⟩ : ∃ q, q = f1.length := ⟨_, rfl⟩
    rw [← hm0] at p0 hwl hcp0
    rw [← hm1] at p1 hwl hcp1
    have HM0 := Lib.hid hm0.symm
    have HM1 := Lib.hid hm1.symm
    clear hm0 hm1
    have p0q : (w.drewN q).cell? ⟨b, off + k * 3, none⟩ = some (.slice (some ⟨g0, 0, none⟩) m0 cp0) := p0
    have s0q : Sl (w.drewN q) g0 0 (f0.map (.int .i64)) := s0
    have hs1q : Sl (w.drewN q) b1 o1 (x.map (.int .i64)) := hs1
    clear p0 p1 p2 s0 s1
    obtain ⟨fi, hfi⟩ : ∃ fi, fi = findMk ⟨f0, f1, f2⟩ x := ⟨_, rfl⟩
    have HFI := Lib.hid hfi.symm
    rcases findMk_cases ⟨f0, f1, f2⟩ x with hc | ⟨a, hc, hax, -⟩
    · have hfi2 : fi = -1 := by rw [hfi]; exact hc
      have HC := Lib.hid hc
      clear hc hfi
      go_wp2_with fail
      refine (l03Find_is b1 o1 n1 c1 x g0 0 m0 cp0 f0 fi HFI.out _ (by exact hs1q) HL1.out (by omega) (by exact s0q) HM0.out (by omega) hc1).mono ?_
      rintro e w' ⟨rfl, q2, rfl⟩
      go_wp2_with fail
      go_roundw
      case rel => exact ⟨k + 1, _, by omega, by go_num, (by first | rfl | exact World.drewN_drewN _ _ _), by
        intro j r hj hr2
        by_cases ej : j = k
        · subst ej; rw [HXD.out] at hr2; injection hr2 with hr2; subst hr2; exact HC.out
        · exact HR.out j r (by omega) hr2⟩
      case measure => simp [intOf]; omega
    · have hfi2 : fi = (a : Int) := by rw [hfi]; exact hc
      have HF : Hid (ruleMk x 0 xs = ((k : Int), a)) := by unfold Hid; have := ruleMk_found (k := 0) HR.out HXD.out hc; rwa [Nat.zero_add] at this
      rw [HL1.out] at hax
      clear hc hfi
      subst hfi2
      go_wp2_with fail
      refine (l03Find_is b1 o1 n1 c1 x g0 0 m0 cp0 f0 a HFI.out _ (by exact hs1q) HL1.out (by omega) (by exact s0q) HM0.out (by omega) hc1).mono ?_
      rintro e w' ⟨rfl, q2, rfl⟩
      go_wp2_with fail
      go_ret2
      exact ⟨ret2 (by rw [HF.out]) (by rw [HF.out]), by first | exact ⟨_, rfl⟩ | exact ⟨_, World.drewN_drewN _ _ _⟩⟩

set_option maxRecDepth 100000 in
set_option maxHeartbeats 1000000 in
theorem l10Step_any (b off n c : Nat) (es : List EMarkovRule) (xs : List DMarkovRule) (b1 o1 n1 c1 : Nat) (x : List Int) (w : World) (hs : Sl w b off (rows EMarkovRule.vs es)) (hr : RcsMarkovRule w es) (hd : es.map (·.d) = xs) (hl : xs.length = n) (hn : n ≤ 1048576) (ht : sumMarkovRule xs ≤ 1048576) (hs1 : Sl w b1 o1 (x.map (.int .i64))) (hl1 : x.length = n1) (hn1 : n1 ≤ 1048576) (hc1 : n1 ≤ c1) :
    Calls Try.prog 86 #[.slice (some ⟨b, off, none⟩) n c, .slice (some ⟨b1, o1, none⟩) n1 c1] w fun e w' => ∃ v, e = .returned (.tuple #[v, .int .i64 (stepMk xs x).2.1, .int .i64 (stepMk xs x).2.2]) ∧
      w'.ownsRow w.heap.size 2 1 v (stepMk xs x).1.length ((stepMk xs x).1.map (.int .i64)) ∧ Below w.heap.size w w' ∧ ((stepMk xs x).2.2 = 0 → ∃ g d, v = .slice (some ⟨g, 0, none⟩) (stepMk xs x).1.length d ∧ (stepMk xs x).1.length ≤ d) := by
  have HL := Lib.hid hl; have HD := Lib.hid hd; have HT := Lib.hid ht
  have HE : Hid (es.length = n) := by unfold Hid; rw [← hl, ← hd, List.length_map]
  have HL1 := Lib.hid hl1
  clear hl hd ht hl1
  have HRU := Lib.hid (l10Rule_any b off n c es xs b1 o1 n1 c1 x w hs hr HD.out HL.out hn HT.out hs1 HL1.out hn1 hc1)
  rcases ruleMk_cases x xs with ⟨h, -⟩ | ⟨i, a, r, hri, hra, h, -⟩
  · rw [h] at HRU
    have HF : Hid (stepMk xs x = ([], 0, 6)) := stepMk_none h
    clear h
    go_enter Try.func86, Try.ntmps86
    go_wp2_with fail
    refine (HRU.out).mono ?_
    rintro e w' ⟨rfl, q, rfl⟩
    go_wp2_with fail
    go_ret3
    exact ⟨_, ends3 (by rw [HF.out]) (by rw [HF.out]), by rw [HF.out]; exact World.ownsRow_nil _ _ _ _, below_drewN (Below.refl _ _) _, fun h0 => by rw [HF.out] at h0; cases h0⟩
  rw [h] at HRU
  simp only at HRU
  have hi : i < n := by have := (List.getElem?_eq_some_iff.1 hri).1; have := HL.out; omega
  obtain ⟨e, HX⟩ := hget HE hi
  have HXD : Hid (xs[i]? = some e.d) := by unfold Hid; rw [← HD.out, List.getElem?_map, HX.out]; rfl
  have hwl : wlMarkovRule e.d ≤ 1048576 := Nat.le_trans (sumMarkovRule_at HXD.out) HT.out
  obtain ⟨⟨g0, cp0, eu0, hcp0, s0⟩, ⟨g1, cp1, eu1, hcp1, s1⟩, -⟩ := hr.at (List.mem_of_getElem? HX.out)
  have p0 : w.cell? ⟨b, off + i * 3, none⟩ = some e.u0 := Sl.rec (f := EMarkovRule.vs) (s := 3) (fun _ => rfl) hs HX.out (j := 0) rfl
  have p1 : w.cell? ⟨b, off + i * 3 + 1, none⟩ = some e.u1 := Sl.rec (f := EMarkovRule.vs) (s := 3) (fun _ => rfl) hs HX.out (j := 1) rfl
  have p2 : w.cell? ⟨b, off + i * 3 + 2, none⟩ = some (.bool e.d.f2) := Sl.rec (f := EMarkovRule.vs) (s := 3) (fun _ => rfl) hs HX.out (j := 2) rfl
  rw [eu0] at p0
  rw [eu1] at p1
  clear eu0 eu1
  obtain ⟨⟨f0, f1, f2⟩, u0, u1⟩ := e
  dsimp only at p0 p1 p2 s0 s1 hwl HXD hcp0 hcp1
  simp only [wlMarkovRule] at hwl
  obtain ⟨m0, hm0⟩ : ∃ q, q = f0.length := ⟨_, rfl⟩
  obtain ⟨m1, hm1⟩ : ∃ q, q = f1.length := ⟨_, rfl⟩
  rw [← hm0] at p0 hwl hcp0
  rw [← hm1] at p1 hwl hcp1
  have HM0 := Lib.hid hm0.symm
  have HM1 := Lib.hid hm1.symm
  clear hm0 hm1
  have HEQ : r = ⟨f0, f1, f2⟩ := by have h1 := hri; rw [HXD.out] at h1; injection h1 with h1; exact h1.symm
  subst HEQ
  have hst : startsB x a f0 = true ∧ a ≤ x.length := by
    rcases findMk_cases ⟨f0, f1, f2⟩ x with hc | ⟨a', hc, hax, hst⟩
    · rw [hra] at hc; omega
    · rw [hra] at hc; obtain rfl : a = a' := by omega
      exact ⟨hst, hax⟩
  have hkm := starts_le hst.1
  rw [HL1.out, HM0.out] at hkm
  have hR := Lib.hid hri; have hH := Lib.hid h
  clear hst hri hra h
  have HPL : Hid ((putL x a m0 f1).length = n1 - m0 + m1) := by unfold Hid; rw [putL_length _ _ _ _ (by have := HL1.out; omega), HL1.out, HM1.out]
  have p0q : ∀ q, (w.drewN q).cell? ⟨b, off + i * 3, none⟩ = some (.slice (some ⟨g0, 0, none⟩) m0 cp0) := fun q => p0
  have p1q : ∀ q, (w.drewN q).cell? ⟨b, off + i * 3 + 1, none⟩ = some (.slice (some ⟨g1, 0, none⟩) m1 cp1) := fun q => p1
  have hw1 : IntKind.i64.wrap ((n1 : Int) - (m0 : Int)) = (n1 : Int) - (m0 : Int) := IntWalk.i64_in _ (by omega)
  have hw2 : IntKind.i64.wrap ((n1 : Int) - (m0 : Int) + (m1 : Int)) = (n1 : Int) - (m0 : Int) + (m1 : Int) := IntWalk.i64_in _ (by omega)
  by_cases hf : n1 - m0 + m1 ≤ 400
  rotate_left
  · have HF : Hid (stepMk xs x = ([], 0, 5)) := stepMk_full hR.out hH.out (by show 400 < (putL x a f0.length f1).length; rw [HM0.out, HPL.out]; omega)
    go_enter Try.func86, Try.ntmps86
    go_wp2_with fail
    refine (HRU.out).mono ?_
    rintro e w' ⟨rfl, q, rfl⟩
    have hBq : Below w.heap.size w (w.drewN q) := below_drewN (Below.refl _ _) q
    replace p0q := p0q q
    replace p1q := p1q q
    clear p0 p1 p2 s0 s1 hs hr hs1 HRU
    generalize w.drewN q = wq at *
    go_wp2_with fail
    go_quiet (fail)
    have hBz := below_drewN hBq nq
    go_wp2_with fail
    go_ret3
    exact ⟨_, ends3 (by rw [HF.out]) (by rw [HF.out]), by rw [HF.out]; exact World.ownsRow_nil _ _ _ _, hBz, fun h0 => by rw [HF.out] at h0; cases h0⟩
  have HF : Hid (stepMk xs x = (putL x a m0 f1, (i : Int), 0)) := by
    have := stepMk_fits hR.out hH.out (by show (putL x a f0.length f1).length ≤ 400; rw [HM0.out, HPL.out]; omega)
    unfold Hid; rw [this]; show (putL x a f0.length f1, _, _) = _; rw [HM0.out]
  go_enter Try.func86, Try.ntmps86
  go_wp2_with fail
  refine (HRU.out).mono ?_
  rintro e w' ⟨rfl, q, rfl⟩
  have hBq : Below w.heap.size w (w.drewN q) := below_drewN (Below.refl _ _) q
  have hs1q := hs1.below' hBq
  have s1q := s1.below' hBq
  replace p0q := p0q q
  replace p1q := p1q q
  clear p0 p1 p2 s0 s1 hs hr hs1 HRU
  generalize w.drewN q = wq at *
  go_wp2_with fail
  go_quiet (fail)
  have hBz := below_drewN hBq nq
  have hs1z : Sl (wq.drewN nq) b1 o1 (x.map (.int .i64)) := hs1q
  have s1z : Sl (wq.drewN nq) g1 0 (f1.map (.int .i64)) := s1q
  have p0z : (wq.drewN nq).cell? ⟨b, off + i * 3, none⟩ = some (.slice (some ⟨g0, 0, none⟩) m0 cp0) := p0q
  have p1z : (wq.drewN nq).cell? ⟨b, off + i * 3 + 1, none⟩ = some (.slice (some ⟨g1, 0, none⟩) m1 cp1) := p1q
  clear hBq hs1q s1q p0q p1q
  generalize wq.drewN nq = wz at *
  go_wp2_with fail
  go_region_held3 (fun W => W.cell? ⟨b, off + i * 3, none⟩ = some (.slice (some ⟨g0, 0, none⟩) m0 cp0) ∧ W.cell? ⟨b, off + i * 3 + 1, none⟩ = some (.slice (some ⟨g1, 0, none⟩) m1 cp1)) (first | go_keep | exact ⟨q0, q1⟩)
    ((go_at_call 147; refine (l03PutA_any b1 o1 n1 c1 x a m0 g1 0 m1 cp1 f1 _ (by exact hs1z) HL1.out (by omega) (by exact s1z) HM1.out (by omega) hkm hc1).mono ?_; rintro e w3 ⟨g, d, rfl, hown', hB', hd⟩; have hB := below_drew_at hB'; have hown : w3.ownsRow wz.heap.size 2 1 (.slice (some ⟨g, 0, none⟩) (n1 - m0 + m1) d) (n1 - m0 + m1) ((putL x a m0 f1).map (.int .i64)) := hown'; have q0 := cell_step (by exact p0z) hB; have q1 := cell_step (by exact p1z) hB))
  all_goals
    have hB2 := below_step hBz hB
    have hown2 := own_base hown hBz.size
    clear q0 q1 hown hown' hB hB'
    go_wp2_with fail
    go_ret3
    refine ⟨_, ends3 (by rw [HF.out]) (by rw [HF.out]), ?_, hB2, fun _ => ?_⟩
    · rw [HF.out]; simp only; rw [HPL.out]; exact hown2
    · rw [HF.out]; simp only; rw [HPL.out]; exact ⟨g, d, rfl, hd⟩

theorem results_tmp4 {fn : Func} {t u v x : Tmp} (h : fn.results = #[.tmp t, .tmp u, .tmp v, .tmp x]) (tmps : Array Value) (P : Program) (w : World) :
    (results fn tmps).run P w = .ok (.tuple #[tmps.getD t undef, tmps.getD u undef, tmps.getD v undef, tmps.getD x undef]) w := by
  simp [results, h]
theorem ends4 {v : Value} {a b : Int} {c d : Bool} {e f : Int} (h : a = b) (k : c = d) (l : e = f) : Ending.returned (.tuple #[v, .int .i64 a, .bool c, .int .i64 e]) = .returned (.tuple #[v, .int .i64 b, .bool d, .int .i64 f]) := by rw [h, k, l]
theorem own_res {w : World} {B n : Nat} {v : Value} {r : List Int} {xs : List Int} (h : r = xs) (hl : xs.length = n) (ho : w.ownsRow B 2 1 v n (xs.map (.int .i64))) : w.ownsRow B 2 1 v r.length (r.map (.int .i64)) := by
  subst hl; rw [h]; exact ho
theorem own_res0 {w : World} {B : Nat} {r : List Int} (h : r = []) : w.ownsRow B 2 1 (.slice none 0 0) r.length (r.map (.int .i64)) := by rw [h]; exact World.ownsRow_nil _ _ _ _

theorem l05Budget_is (n : Int) (v : Bool) (hv : inB n 1 20000 = v) (w : World) : Calls Try.prog 82 #[.int .i64 n] w fun e w' => e = .returned (.bool v) ∧ w = w' := by
  have HV := Lib.hid hv; clear hv
  go_enter Try.func82, Try.ntmps82
  go_wp2_with fail
  refine (l00In_is n 1 20000 v HV.out _).mono ?_
  rintro e w' ⟨rfl, rfl⟩
  go_wp2_with fail
  go_ret
  exact ⟨rfl, rfl⟩
end Go.Proofs.Ytcfkjigapnknnaa

/- ApplyRewrite, the reference's and the program's. -/
namespace Go.Proofs.Ytcfkjigapnknnaa
open Go.RowKit
set_option linter.all false

set_option maxRecDepth 100000 in
set_option maxHeartbeats 1000000 in
theorem l10Apply_any (b off n c : Nat) (es : List ERewrite) (xs : List DRewrite) (b1 o1 n1 c1 : Nat) (x : List Int) (i k : Nat) (r : DRewrite) (hx : xs[i]? = some r) (w : World) (hs : Sl w b off (rows ERewrite.vs es)) (hr : RcsRewrite w es) (hd : es.map (·.d) = xs) (hl : xs.length = n) (hn : n ≤ 1048576) (ht : sumRewrite xs ≤ 1048576) (hs1 : Sl w b1 o1 (x.map (.int .i64))) (hl1 : x.length = n1) (hn1 : n1 ≤ 1048576) (hc1 : n1 ≤ c1) (hk : k ≤ n1) :
    Calls Try.prog 111 #[.slice (some ⟨b, off, none⟩) n c, .slice (some ⟨b1, o1, none⟩) n1 c1, .int .i64 i, .int .i64 k] w fun e w' => ∃ v, e = .returned (.tuple #[v, .int .i64 (stepRw r x k).2]) ∧
      w'.ownsRow w.heap.size 2 1 v (stepRw r x k).1.length ((stepRw r x k).1.map (.int .i64)) ∧ Below w.heap.size w w' ∧ ((stepRw r x k).2 = 0 → ∃ g d, v = .slice (some ⟨g, 0, none⟩) (stepRw r x k).1.length d ∧ (stepRw r x k).1.length ≤ d) := by
  have HL := Lib.hid hl; have HD := Lib.hid hd; have HT := Lib.hid ht
  have HE : Hid (es.length = n) := by unfold Hid; rw [← hl, ← hd, List.length_map]
  have HL1 := Lib.hid hl1
  have hi : i < n := by have := (List.getElem?_eq_some_iff.1 hx).1; omega
  have HR := Lib.hid hx
  clear hl hd ht hl1 hx
  obtain ⟨e, HX⟩ := hget HE hi
  have HXD : Hid (xs[i]? = some e.d) := by unfold Hid; rw [← HD.out, List.getElem?_map, HX.out]; rfl
  have hwl : wlRewrite e.d ≤ 1048576 := Nat.le_trans (sumRewrite_at HXD.out) HT.out
  obtain ⟨⟨g0, eu0, s0⟩, ⟨g1, eu1, s1⟩, -⟩ := hr.at (List.mem_of_getElem? HX.out)
  have p0 : w.cell? ⟨b, off + i * 2, none⟩ = some e.u0 := Sl.rec (f := ERewrite.vs) (s := 2) (fun _ => rfl) hs HX.out (j := 0) rfl
  have p1 : w.cell? ⟨b, off + i * 2 + 1, none⟩ = some e.u1 := Sl.rec (f := ERewrite.vs) (s := 2) (fun _ => rfl) hs HX.out (j := 1) rfl
  rw [eu0] at p0
  rw [eu1] at p1
  clear eu0 eu1
  obtain ⟨⟨f0, f1⟩, u0, u1⟩ := e
  dsimp only at p0 p1 s0 s1 hwl HXD
  simp only [wlRewrite] at hwl
  obtain ⟨m0, hm0⟩ : ∃ q, q = f0.length := ⟨_, rfl⟩
  obtain ⟨m1, hm1⟩ : ∃ q, q = f1.length := ⟨_, rfl⟩
  rw [← hm0] at p0 hwl
  rw [← hm1] at p1 hwl
  have HM0 := Lib.hid hm0.symm
  have HM1 := Lib.hid hm1.symm
  clear hm0 hm1
  have HEQ : Hid (r = ⟨f0, f1⟩) := by unfold Hid; have h1 := HR.out; rw [HXD.out] at h1; injection h1 with h1; exact h1.symm
  clear hs hr
  rw [HEQ.out]
  rcases Bool.eq_false_or_eq_true (startsB x k f0) with hst | hst
  rotate_left
  · have HST := Lib.hid hst; clear hst
    have HF : Hid (stepRw ⟨f0, f1⟩ x k = ([], 3)) := stepRw_no HST.out
    go_enter Try.func111, Try.ntmps111
    go_wp2_with fail
    refine (l03At_is b1 o1 n1 c1 x k g0 0 m0 m0 f0 false HST.out _ hs1 HL1.out (by omega) s0 HM0.out (by omega) hk hc1).mono ?_
    rintro e w' ⟨rfl, q, rfl⟩
    go_wp2_with fail
    go_ret2
    exact ⟨_, ends2 (by rw [HF.out]), own_nil' HF.out, below_drewN (Below.refl _ _) _, fun h0 => by rw [HF.out] at h0; cases h0⟩
  have hkm := starts_le hst
  rw [HL1.out, HM0.out] at hkm
  have HST := Lib.hid hst; clear hst
  have HS : Hid (stepRw ⟨f0, f1⟩ x k = fitL (putL x k m0 f1)) := by unfold Hid; rw [stepRw_yes HST.out]; show fitL (putL x k f0.length f1) = _; rw [HM0.out]
  have HPL : Hid ((putL x k m0 f1).length = n1 - m0 + m1) := by unfold Hid; rw [putL_length _ _ _ _ (by have := HL1.out; omega), HL1.out, HM1.out]
  have p0q : ∀ q, (w.drewN q).cell? ⟨b, off + i * 2, none⟩ = some (.slice (some ⟨g0, 0, none⟩) m0 m0) := fun q => p0
  have p1q : ∀ q, (w.drewN q).cell? ⟨b, off + i * 2 + 1, none⟩ = some (.slice (some ⟨g1, 0, none⟩) m1 m1) := fun q => p1
  have hw1 : IntKind.i64.wrap ((n1 : Int) - (m0 : Int)) = (n1 : Int) - (m0 : Int) := IntWalk.i64_in _ (by omega)
  have hw2 : IntKind.i64.wrap ((n1 : Int) - (m0 : Int) + (m1 : Int)) = (n1 : Int) - (m0 : Int) + (m1 : Int) := IntWalk.i64_in _ (by omega)
  by_cases hf : n1 - m0 + m1 ≤ 400
  rotate_left
  · have HF : Hid (stepRw ⟨f0, f1⟩ x k = ([], 5)) := by unfold Hid; rw [HS.out, fitL_no (by have := HPL.out; omega)]
    go_enter Try.func111, Try.ntmps111
    go_wp2_with fail
    refine (l03At_is b1 o1 n1 c1 x k g0 0 m0 m0 f0 true HST.out _ hs1 HL1.out (by omega) s0 HM0.out (by omega) hk hc1).mono ?_
    rintro e w' ⟨rfl, q, rfl⟩
    have hBq : Below w.heap.size w (w.drewN q) := below_drewN (Below.refl _ _) q
    replace p0q := p0q q
    replace p1q := p1q q
    clear p0 p1
    generalize w.drewN q = wq at *
    go_wp2_with fail
    go_quiet (fail)
    have hBz := below_drewN hBq nq
    go_wp2_with fail
    go_ret2
    exact ⟨_, ends2 (by rw [HF.out]), own_nil' HF.out, hBz, fun h0 => by rw [HF.out] at h0; cases h0⟩
  have HF : Hid (stepRw ⟨f0, f1⟩ x k = (putL x k m0 f1, 0)) := by unfold Hid; rw [HS.out, fitL_yes (by have := HPL.out; omega)]
  go_enter Try.func111, Try.ntmps111
  go_wp2_with fail
  refine (l03At_is b1 o1 n1 c1 x k g0 0 m0 m0 f0 true HST.out _ hs1 HL1.out (by omega) s0 HM0.out (by omega) hk hc1).mono ?_
  rintro e w' ⟨rfl, q, rfl⟩
  have hBq : Below w.heap.size w (w.drewN q) := below_drewN (Below.refl _ _) q
  have hs1q := hs1.below' hBq
  have s1q := s1.below' hBq
  replace p0q := p0q q
  replace p1q := p1q q
  clear p0 p1 hs1 s0 s1
  generalize w.drewN q = wq at *
  go_wp2_with fail
  go_quiet (fail)
  have hBz := below_drewN hBq nq
  have hs1z : Sl (wq.drewN nq) b1 o1 (x.map (.int .i64)) := hs1q
  have s1z : Sl (wq.drewN nq) g1 0 (f1.map (.int .i64)) := s1q
  have p0z : (wq.drewN nq).cell? ⟨b, off + i * 2, none⟩ = some (.slice (some ⟨g0, 0, none⟩) m0 m0) := p0q
  have p1z : (wq.drewN nq).cell? ⟨b, off + i * 2 + 1, none⟩ = some (.slice (some ⟨g1, 0, none⟩) m1 m1) := p1q
  clear hBq hs1q s1q p0q p1q
  generalize wq.drewN nq = wz at *
  go_wp2_with fail
  go_still_tail 11, (by kernel_rfl)
  change wpList _ _ _ _ _ wz.drew
  have hBq : Below w.heap.size w wz.drew := hBz.drew
  have hs1q : Sl wz.drew b1 o1 (x.map (.int .i64)) := hs1z
  have s1q : Sl wz.drew g1 0 (f1.map (.int .i64)) := s1z
  clear hBz hs1z s1z p0z p1z
  generalize wz.drew = wd at *
  go_wp2_with fail
  refine (l03PutA_any b1 o1 n1 c1 x k m0 g1 0 m1 m1 f1 _ hs1q HL1.out (by omega) s1q HM1.out (by omega) hkm hc1).mono ?_
  rintro e w1' ⟨g, d, rfl, hown, hB, hd9⟩
  have hB2 := below_step hBq hB
  have hown2 := own_base hown hBq.size
  clear hown hB
  go_wp2_with fail
  go_ret2
  refine ⟨_, ends2 (by rw [HF.out]), own_fit HF.out HPL.out hown2, hB2, fun _ => ?_⟩
  rw [HF.out]; simp only; rw [HPL.out]; exact ⟨g, d, rfl, hd9⟩

theorem sizeRw_any (A : Option Addr) (n c : Nat) (w : World) : Calls Try.prog 114 #[.slice A n c] w fun e w' => e = .returned (.int .i64 n) ∧ w = w' := by
  go_enter Try.func114, Try.ntmps114
  go_wp2
  go_ret
  exact ⟨rfl, rfl⟩

/-- The last part of the program's step: begins, replaced, fitting. -/
theorem fitting_any (n c : Nat) (A : Option Addr) (ys : List Int) (B : Nat) (w : World) (h : w.ownsRow B 2 1 (.slice A n c) n (ys.map (.int .i64))) (hl : ys.length = n) (hn : n ≤ 9000000) :
    Calls Try.prog 119 #[.slice A n c] w fun e w' => (∃ v, e = .returned (.tuple #[v, .int .i64 (fitL ys).2]) ∧ w'.ownsRow B 2 1 v (fitL ys).1.length ((fitL ys).1.map (.int .i64))) ∧ w = w' := by
  by_cases hf : n ≤ 400
  · refine (fitting_yes n w A c hf).mono ?_
    rintro e w' ⟨rfl, rfl⟩
    rw [fitL_yes (by omega)]
    exact ⟨⟨_, rfl, by rw [hl]; exact h⟩, rfl⟩
  · refine (fitting_no n w A c hn (by omega)).mono ?_
    rintro e w' ⟨rfl, rfl⟩
    rw [fitL_no (by omega)]
    exact ⟨⟨_, rfl, World.ownsRow_nil _ _ _ _⟩, rfl⟩
end Go.Proofs.Ytcfkjigapnknnaa

/- StepMarkov and RunMarkov of the program. -/
namespace Go.Proofs.Ytcfkjigapnknnaa
open Go.RowKit
set_option linter.all false

/-- The next word and the rule; -1 where no rule occurs. -/
def nextMk (xs : List DMarkovRule) (w : List Int) : List Int × Int :=
  match xs[(ruleMk w 0 xs).1.toNat]? with
  | some r => if (ruleMk w 0 xs).1 < 0 then ([], -1) else (putL w (ruleMk w 0 xs).2 r.f0.length r.f1, (ruleMk w 0 xs).1)
  | none => ([], -1)
theorem nextMk_none {xs : List DMarkovRule} {w : List Int} {a : Nat} (h : ruleMk w 0 xs = (-1, a)) : nextMk xs w = ([], -1) := by
  unfold nextMk
  rw [h]
  split
  · rw [if_pos (by omega)]
  · rfl
theorem nextMk_some {xs : List DMarkovRule} {w : List Int} {i a : Nat} {r : DMarkovRule} (hr : xs[i]? = some r) (h : ruleMk w 0 xs = ((i : Int), a)) : nextMk xs w = (putL w a r.f0.length r.f1, (i : Int)) := by
  unfold nextMk
  rw [h]
  simp only [Int.toNat_natCast, hr]
  rw [if_neg (by omega)]
theorem starts_nil (p : List Int) : startsB [] 0 p = decide (p.length = 0) := by
  unfold startsB
  cases p with
  | nil => rfl
  | cons a l => simp
theorem findMk_nil (r : DMarkovRule) : findMk r [] = if r.f0.length = 0 then 0 else -1 := by
  by_cases h : r.f0.length = 0
  · rw [if_pos h]
    exact findMk_yes (k := 0) (Nat.le_refl _) (by rw [starts_nil, decide_eq_true h]) (by intro j hj; omega)
  · rw [if_neg h]
    refine findMk_no fun j hj => ?_
    obtain rfl : j = 0 := by simp at hj; omega
    rw [starts_nil, decide_eq_false h]

set_option maxRecDepth 100000 in
set_option maxHeartbeats 2000000 in
theorem implNextMk_sl (b off n c : Nat) (es : List EMarkovRule) (xs : List DMarkovRule) (b1 o1 n1 c1 : Nat) (x : List Int) (w : World) (hs : Sl w b off (rows EMarkovRule.vs es)) (hr : RcsMarkovRule w es) (hd : es.map (·.d) = xs) (hl : xs.length = n) (hn : n ≤ 1048576) (ht : sumMarkovRule xs ≤ 1048576) (hs1 : Sl w b1 o1 (x.map (.int .i64))) (hl1 : x.length = n1) (hn1 : n1 ≤ 1048576) (hc1 : n1 ≤ c1) :
    Calls Try.prog 92 #[.slice (some ⟨b, off, none⟩) n c, .slice (some ⟨b1, o1, none⟩) n1 c1] w fun e w' => ∃ v, e = .returned (.tuple #[v, .int .i64 (nextMk xs x).2]) ∧
      w'.ownsRow w.heap.size 2 1 v (nextMk xs x).1.length ((nextMk xs x).1.map (.int .i64)) ∧ Below w.heap.size w w' := by
  have HL := Lib.hid hl; have HD := Lib.hid hd; have HT := Lib.hid ht
  have HE : Hid (es.length = n) := by unfold Hid; rw [← hl, ← hd, List.length_map]
  have HL1 := Lib.hid hl1
  clear hl hd ht hl1
  go_enter Try.func92, Try.ntmps92
  go_wp2_with fail
  go_loopw [11] (fun i wo => ∃ k : Nat, k ≤ n ∧ i = .int .i64 k ∧ Below w.heap.size w wo ∧ Hid (∀ j r, j < k → xs[j]? = some r → findMk r x = -1)) (fun i _ => n - (intOf i).toNat)
  case atStart => exact ⟨0, Nat.zero_le _, rfl, Below.refl _ _, by intro j x hj; omega⟩
  case round =>
    obtain ⟨k, hk, rfl, hB, HR⟩ := hrel
    obtain ⟨wo, rfl⟩ : ∃ wo, wo = wr := ⟨_, rfl⟩
    by_cases hlt : k < n
    rotate_left
    · have HF : Hid (nextMk xs x = ([], -1)) := by
        refine nextMk_none (a := 0) (ruleMk_none ?_); intro j r hj; exact HR.out j r (by have := (List.getElem?_eq_some_iff.1 hj).1; have := HL.out; omega) hj
      go_wp2_with fail
      go_ret2
      exact ⟨_, ends2 (by rw [HF.out]), by rw [HF.out]; exact World.ownsRow_nil _ _ _ _, hB⟩
    obtain ⟨e, HX⟩ := hget HE hlt
    have HXD : Hid (xs[k]? = some e.d) := by unfold Hid; rw [← HD.out, List.getElem?_map, HX.out]; rfl
    have hwl : wlMarkovRule e.d ≤ 1048576 := Nat.le_trans (sumMarkovRule_at HXD.out) HT.out
    obtain ⟨⟨g0, cp0, eu0, hcp0, s0⟩, ⟨g1, cp1, eu1, hcp1, s1⟩, -⟩ := (hr.below hB).at (List.mem_of_getElem? HX.out)
    have p0 : wo.cell? ⟨b, off + k * 3, none⟩ = some e.u0 := Sl.rec (f := EMarkovRule.vs) (s := 3) (fun _ => rfl) (hs.below' hB) HX.out (j := 0) rfl
    have p1 : wo.cell? ⟨b, off + k * 3 + 1, none⟩ = some e.u1 := Sl.rec (f := EMarkovRule.vs) (s := 3) (fun _ => rfl) (hs.below' hB) HX.out (j := 1) rfl
    have p2 : wo.cell? ⟨b, off + k * 3 + 2, none⟩ = some (.bool e.d.f2) := Sl.rec (f := EMarkovRule.vs) (s := 3) (fun _ => rfl) (hs.below' hB) HX.out (j := 2) rfl
    rw [eu0] at p0
    rw [eu1] at p1
    clear eu0 eu1
    obtain ⟨⟨f0, f1, f2⟩, u0, u1⟩ := e
    dsimp only at p0 p1 p2 s0 s1 hwl HXD hcp0 hcp1
    simp only [wlMarkovRule] at hwl
    obtain ⟨m0, hm0⟩ : ∃ q, q = f0.length := ⟨_, rfl⟩
    obtain ⟨m1, hm1⟩ : ∃ q, q = f1.length := ⟨_, rfl⟩
    rw [← hm0] at p0 hwl hcp0
    rw [← hm1] at p1 hwl hcp1
    have HM0 := Lib.hid hm0.symm
    have HM1 := Lib.hid hm1.symm
    clear hm0 hm1
    obtain ⟨w0, HW0, B0, x0⟩ := al1 wo (.cells #[.slice (some ⟨g0, 0, none⟩) m0 cp0, .slice (some ⟨g1, 0, none⟩) m1 cp1, .bool f2] 117)
    have HX0 := Lib.hid x0; clear x0
    have hB0 := below_step hB B0
    clear hs hr
    go_wp2_with fail
    rw [← HW0.out]
    go_loopw [8] (fun i wr => ∃ a : Nat, a ≤ n1 + 1 ∧ i = .int .i64 a ∧ Below w0.heap.size w0 wr ∧ Hid (∀ j, j < a → startsB x j f0 = false)) (fun i _ => n1 + 2 - (intOf i).toNat)
    case atStart => exact ⟨0, Nat.zero_le _, rfl, Below.refl _ _, by intro j hj; omega⟩
    case round =>
      obtain ⟨a, ha, rfl, hBi, HS⟩ := hrel
      have HX1 := Lib.hid ((hBi.block _ (heap_lt HX0.out)).trans HX0.out)
      have hB1 := below_step hB0 hBi
      by_cases hle : a ≤ n1
      rotate_left
      · have HNO : Hid (findMk ⟨f0, f1, f2⟩ x = -1) := findMk_no (fun j hj => HS.out j (by have := HL1.out; omega))
        go_wp2_with fail
        go_roundw
        case rel => exact ⟨k + 1, by omega, by go_num, hB1, by
          intro j r hj hr2
          by_cases ej : j = k
          · subst ej; rw [HXD.out] at hr2; injection hr2 with hr2; subst hr2; exact HNO.out
          · exact HR.out j r (by omega) hr2⟩
        case measure => simp [intOf]; omega
      have hs1i := hs1.below' hB1
      have s0i := s0.below' (below_step B0 hBi)
      have s1i := s1.below' (below_step B0 hBi)
      have k0 : wr.cell? ⟨wo.heap.size, 0, none⟩ = some (.slice (some ⟨g0, 0, none⟩) m0 cp0) := by rw [cell_of_heap HX1.out]; rfl
      have k1 : wr.cell? ⟨wo.heap.size, 1, none⟩ = some (.slice (some ⟨g1, 0, none⟩) m1 cp1) := by rw [cell_of_heap HX1.out]; rfl
      rcases Bool.eq_false_or_eq_true (startsB x a f0) with hst | hst
      rotate_left
      · have HT : Hid (startsB (x.drop a) 0 f0 = false) := by unfold Hid; rw [starts_drop _ _ _ (by have := HL1.out; omega)]; exact hst
        have HS2 : Hid (∀ j, j < a + 1 → startsB x j f0 = false) := by
          intro j hj
          by_cases ej : j = a
          · subst ej; exact hst
          · exact HS.out j (by omega)
        clear hst
        by_cases hck : c1 = a
        · have HD0 : Hid (x.drop a = []) := by unfold Hid; exact List.drop_of_length_le (by have := HL1.out; omega)
          subst hck
          have hsd : Sl wr b1 o1 ((x.drop c1).map (.int .i64)) := by rw [HD0.out]; exact Sl.empty hs1i.1
          have HLD : Hid ((x.drop c1).length = 0) := by unfold Hid; rw [HD0.out]; rfl
          have i1 : (c1 : Int) ≤ (c1 : Int) := by omega
          have i2 : (c1 : Int) ≤ (n1 : Int) := by omega
          have i5 : 0 ≤ (c1 : Int) := by omega
          go_wp2_with fail
          go_quiet ((go_at_call 149; exact quiet_q (begins_is _ _ _ _ (x.drop c1) g0 0 m0 cp0 f0 false HT.out _ (by exact hsd) HLD.out (by omega) (by exact s0i) HM0.out (by omega) (by omega))))
          go_wp2_with fail
          go_roundw
          case rel => exact ⟨c1 + 1, by omega, by go_num, below_drewN hBi nq, HS2.out⟩
          case measure => simp [intOf]; omega
        · have hac : a < c1 := by omega
          have hsd := hs1i.from a
          have HLD : Hid ((x.drop a).length = n1 - a) := by have := HL1.out; unfold Hid; simp; omega
          have i1 : (a : Int) ≤ (c1 : Int) := by omega
          have i2 : (a : Int) ≤ (n1 : Int) := by omega
          have i5 : 0 ≤ (a : Int) := by omega
          go_wp2_with fail
          go_quiet ((go_at_call 149; exact quiet_q (begins_is _ _ _ _ (x.drop a) g0 0 m0 cp0 f0 false HT.out _ (by exact hsd) HLD.out (by omega) (by exact s0i) HM0.out (by omega) (by omega))))
          go_wp2_with fail
          go_roundw
          case rel => exact ⟨a + 1, by omega, by go_num, below_drewN hBi nq, HS2.out⟩
          case measure => simp [intOf]; omega
      have HT : Hid (startsB (x.drop a) 0 f0 = true) := by unfold Hid; rw [starts_drop _ _ _ (by have := HL1.out; omega)]; exact hst
      have hkm := starts_le hst
      rw [HL1.out, HM0.out] at hkm
      have HYES : Hid (findMk ⟨f0, f1, f2⟩ x = a) := findMk_yes (by have := HL1.out; omega) hst HS.out
      have HF : Hid (nextMk xs x = (putL x a m0 f1, (k : Int))) := by
        have h := ruleMk_found (k := 0) HR.out HXD.out HYES.out
        rw [Nat.zero_add] at h
        unfold Hid; rw [nextMk_some HXD.out h]; show (putL x a f0.length f1, _) = _; rw [HM0.out]
      have HPL : Hid ((putL x a m0 f1).length = n1 - m0 + m1) := by unfold Hid; rw [putL_length _ _ _ _ (by have := HL1.out; omega), HL1.out, HM1.out]
      clear hst
      by_cases hck : c1 = a
      · have HD0 : Hid (x.drop a = []) := by unfold Hid; exact List.drop_of_length_le (by have := HL1.out; omega)
        subst hck
        have hsd : Sl wr b1 o1 ((x.drop c1).map (.int .i64)) := by rw [HD0.out]; exact Sl.empty hs1i.1
        have HLD : Hid ((x.drop c1).length = 0) := by unfold Hid; rw [HD0.out]; rfl
        have i1 : (c1 : Int) ≤ (c1 : Int) := by omega
        have i2 : (c1 : Int) ≤ (n1 : Int) := by omega
        have i5 : 0 ≤ (c1 : Int) := by omega
        go_wp2_with fail
        go_quiet ((go_at_call 149; exact quiet_q (begins_is _ _ _ _ (x.drop c1) g0 0 m0 cp0 f0 true HT.out _ (by exact hsd) HLD.out (by omega) (by exact s0i) HM0.out (by omega) (by omega))))
        have hbq : Below wr.heap.size wr (wr.drewN nq) := below_drewN (Below.refl _ _) nq
        have hBq := below_step hB1 hbq
        have hs1q := hs1i.below' hbq
        have s1q := s1i.below' hbq
        have k0q : (wr.drewN nq).cell? ⟨wo.heap.size, 0, none⟩ = some (.slice (some ⟨g0, 0, none⟩) m0 cp0) := k0
        have k1q : (wr.drewN nq).cell? ⟨wo.heap.size, 1, none⟩ = some (.slice (some ⟨g1, 0, none⟩) m1 cp1) := k1
        clear k0 k1 hs1i s0i s1i hsd
        generalize wr.drewN nq = wq at *
        go_wp2_with fail
        refine (replaced_any b1 o1 n1 c1 x c1 m0 g1 0 m1 cp1 f1 _ hs1q HL1.out (by omega) s1q HM1.out (by omega) hkm hc1).mono ?_
        rintro e w3 ⟨v, rfl, hown, hB3⟩
        have hB4 := below_step hBq hB3
        have hown2 := own_base hown hBq.size
        obtain ⟨A, d, rfl⟩ := own_form hown2
        clear hown hB3
        go_wp2_with fail
        go_ret2
        exact ⟨_, ends2 (by rw [HF.out]), own_res (by rw [HF.out]) HPL.out hown2, hB4⟩
      · have hac : a < c1 := by omega
        have hsd := hs1i.from a
        have HLD : Hid ((x.drop a).length = n1 - a) := by have := HL1.out; unfold Hid; simp; omega
        have i1 : (a : Int) ≤ (c1 : Int) := by omega
        have i2 : (a : Int) ≤ (n1 : Int) := by omega
        have i5 : 0 ≤ (a : Int) := by omega
        go_wp2_with fail
        go_quiet ((go_at_call 149; exact quiet_q (begins_is _ _ _ _ (x.drop a) g0 0 m0 cp0 f0 true HT.out _ (by exact hsd) HLD.out (by omega) (by exact s0i) HM0.out (by omega) (by omega))))
        have hbq : Below wr.heap.size wr (wr.drewN nq) := below_drewN (Below.refl _ _) nq
        have hBq := below_step hB1 hbq
        have hs1q := hs1i.below' hbq
        have s1q := s1i.below' hbq
        have k0q : (wr.drewN nq).cell? ⟨wo.heap.size, 0, none⟩ = some (.slice (some ⟨g0, 0, none⟩) m0 cp0) := k0
        have k1q : (wr.drewN nq).cell? ⟨wo.heap.size, 1, none⟩ = some (.slice (some ⟨g1, 0, none⟩) m1 cp1) := k1
        clear k0 k1 hs1i s0i s1i hsd
        generalize wr.drewN nq = wq at *
        go_wp2_with fail
        refine (replaced_any b1 o1 n1 c1 x a m0 g1 0 m1 cp1 f1 _ hs1q HL1.out (by omega) s1q HM1.out (by omega) hkm hc1).mono ?_
        rintro e w3 ⟨v, rfl, hown, hB3⟩
        have hB4 := below_step hBq hB3
        have hown2 := own_base hown hBq.size
        obtain ⟨A, d, rfl⟩ := own_form hown2
        clear hown hB3
        go_wp2_with fail
        go_ret2
        exact ⟨_, ends2 (by rw [HF.out]), own_res (by rw [HF.out]) HPL.out hown2, hB4⟩

set_option maxRecDepth 100000 in
set_option maxHeartbeats 2000000 in
theorem implNextMk_nil (b off n c : Nat) (es : List EMarkovRule) (xs : List DMarkovRule) (w : World) (hs : Sl w b off (rows EMarkovRule.vs es)) (hr : RcsMarkovRule w es) (hd : es.map (·.d) = xs) (hl : xs.length = n) (hn : n ≤ 1048576) (ht : sumMarkovRule xs ≤ 1048576) :
    Calls Try.prog 92 #[.slice (some ⟨b, off, none⟩) n c, .slice none 0 0] w fun e w' => ∃ v, e = .returned (.tuple #[v, .int .i64 (nextMk xs []).2]) ∧
      w'.ownsRow w.heap.size 2 1 v (nextMk xs []).1.length ((nextMk xs []).1.map (.int .i64)) ∧ Below w.heap.size w w' := by
  have HL := Lib.hid hl; have HD := Lib.hid hd; have HT := Lib.hid ht
  have HE : Hid (es.length = n) := by unfold Hid; rw [← hl, ← hd, List.length_map]
  clear hl hd ht
  go_enter Try.func92, Try.ntmps92
  go_wp2_with fail
  go_loopw [11] (fun i wo => ∃ k : Nat, k ≤ n ∧ i = .int .i64 k ∧ Below w.heap.size w wo ∧ Hid (∀ j r, j < k → xs[j]? = some r → findMk r [] = -1)) (fun i _ => n - (intOf i).toNat)
  case atStart => exact ⟨0, Nat.zero_le _, rfl, Below.refl _ _, by intro j x hj; omega⟩
  case round =>
    obtain ⟨k, hk, rfl, hB, HR⟩ := hrel
    obtain ⟨wo, rfl⟩ : ∃ wo, wo = wr := ⟨_, rfl⟩
    by_cases hlt : k < n
    rotate_left
    · have HF : Hid (nextMk xs [] = ([], -1)) := by
        refine nextMk_none (a := 0) (ruleMk_none ?_); intro j r hj; exact HR.out j r (by have := (List.getElem?_eq_some_iff.1 hj).1; have := HL.out; omega) hj
      go_wp2_with fail
      go_ret2
      exact ⟨_, ends2 (by rw [HF.out]), by rw [HF.out]; exact World.ownsRow_nil _ _ _ _, hB⟩
    obtain ⟨e, HX⟩ := hget HE hlt
    have HXD : Hid (xs[k]? = some e.d) := by unfold Hid; rw [← HD.out, List.getElem?_map, HX.out]; rfl
    have hwl : wlMarkovRule e.d ≤ 1048576 := Nat.le_trans (sumMarkovRule_at HXD.out) HT.out
    obtain ⟨⟨g0, cp0, eu0, hcp0, s0⟩, ⟨g1, cp1, eu1, hcp1, s1⟩, -⟩ := (hr.below hB).at (List.mem_of_getElem? HX.out)
    have p0 : wo.cell? ⟨b, off + k * 3, none⟩ = some e.u0 := Sl.rec (f := EMarkovRule.vs) (s := 3) (fun _ => rfl) (hs.below' hB) HX.out (j := 0) rfl
    have p1 : wo.cell? ⟨b, off + k * 3 + 1, none⟩ = some e.u1 := Sl.rec (f := EMarkovRule.vs) (s := 3) (fun _ => rfl) (hs.below' hB) HX.out (j := 1) rfl
    have p2 : wo.cell? ⟨b, off + k * 3 + 2, none⟩ = some (.bool e.d.f2) := Sl.rec (f := EMarkovRule.vs) (s := 3) (fun _ => rfl) (hs.below' hB) HX.out (j := 2) rfl
    rw [eu0] at p0
    rw [eu1] at p1
    clear eu0 eu1
    obtain ⟨⟨f0, f1, f2⟩, u0, u1⟩ := e
    dsimp only at p0 p1 p2 s0 s1 hwl HXD hcp0 hcp1
    simp only [wlMarkovRule] at hwl
    obtain ⟨m0, hm0⟩ : ∃ q, q = f0.length := ⟨_, rfl⟩
    obtain ⟨m1, hm1⟩ : ∃ q, q = f1.length := ⟨_, rfl⟩
    rw [← hm0] at p0 hwl hcp0
    rw [← hm1] at p1 hwl hcp1
    have HM0 := Lib.hid hm0.symm
    have HM1 := Lib.hid hm1.symm
    clear hm0 hm1
    obtain ⟨w0, HW0, B0, x0⟩ := al1 wo (.cells #[.slice (some ⟨g0, 0, none⟩) m0 cp0, .slice (some ⟨g1, 0, none⟩) m1 cp1, .bool f2] 117)
    have HX0 := Lib.hid x0; clear x0
    have hB0 := below_step hB B0
    clear hs hr
    go_wp2_with fail
    rw [← HW0.out]
    go_loopw [8] (fun i wr => ∃ a : Nat, a ≤ 1 ∧ i = .int .i64 a ∧ Below w0.heap.size w0 wr ∧ Hid (a = 1 → m0 ≠ 0)) (fun i _ => 2 - (intOf i).toNat)
    case atStart => exact ⟨0, Nat.zero_le _, rfl, Below.refl _ _, by intro h; omega⟩
    case round =>
      obtain ⟨a, ha, rfl, hBi, HS⟩ := hrel
      have HX1 := Lib.hid ((hBi.block _ (heap_lt HX0.out)).trans HX0.out)
      have hB1 := below_step hB0 hBi
      by_cases hle : a = 0
      rotate_left
      · have hm0 : m0 ≠ 0 := HS.out (by omega)
        obtain rfl : a = 1 := by omega
        have HNO : Hid (findMk ⟨f0, f1, f2⟩ [] = -1) := by unfold Hid; rw [findMk_nil]; show (if f0.length = 0 then _ else _) = _; rw [HM0.out, if_neg hm0]
        clear hm0
        go_wp2_with fail
        go_roundw
        case rel => exact ⟨k + 1, by omega, by go_num, hB1, by
          intro j r hj hr2
          by_cases ej : j = k
          · subst ej; rw [HXD.out] at hr2; injection hr2 with hr2; subst hr2; exact HNO.out
          · exact HR.out j r (by omega) hr2⟩
        case measure => simp [intOf]; omega
      subst hle
      have s1i := s1.below' (below_step B0 hBi)
      have k0 : wr.cell? ⟨wo.heap.size, 0, none⟩ = some (.slice (some ⟨g0, 0, none⟩) m0 cp0) := by rw [cell_of_heap HX1.out]; rfl
      have k1 : wr.cell? ⟨wo.heap.size, 1, none⟩ = some (.slice (some ⟨g1, 0, none⟩) m1 cp1) := by rw [cell_of_heap HX1.out]; rfl
      by_cases hm0 : m0 = 0
      rotate_left
      · have HM := Lib.hid hm0
        clear hm0
        go_wp2_with fail
        go_quiet ((go_at_call 149; exact quiet_q (begins_nil g0 0 m0 cp0 _ (by omega) false (decide_eq_false HM.out))))
        go_wp2_with fail
        go_roundw
        case rel => exact ⟨1, by omega, by go_num, below_drewN hBi nq, fun _ => HM.out⟩
        case measure => simp [intOf]
      have HYES : Hid (findMk ⟨f0, f1, f2⟩ [] = (0 : Nat)) := by unfold Hid; rw [findMk_nil]; show (if f0.length = 0 then _ else _) = _; rw [HM0.out, if_pos hm0]; rfl
      subst hm0
      have HF : Hid (nextMk xs [] = (f1, (k : Int))) := by
        have h := ruleMk_found (k := 0) HR.out HXD.out HYES.out
        rw [Nat.zero_add] at h
        unfold Hid; rw [nextMk_some HXD.out h]; show (putL [] 0 f0.length f1, _) = _; unfold putL; simp
      go_wp2_with fail
      go_quiet ((go_at_call 149; exact quiet_q (begins_nil g0 0 0 cp0 _ (by omega) true rfl)))
      have hbq : Below wr.heap.size wr (wr.drewN nq) := below_drewN (Below.refl _ _) nq
      have hBq := below_step hB1 hbq
      have s1q := s1i.below' hbq
      have k0q : (wr.drewN nq).cell? ⟨wo.heap.size, 0, none⟩ = some (.slice (some ⟨g0, 0, none⟩) 0 cp0) := k0
      have k1q : (wr.drewN nq).cell? ⟨wo.heap.size, 1, none⟩ = some (.slice (some ⟨g1, 0, none⟩) m1 cp1) := k1
      clear k0 k1 s1i
      generalize wr.drewN nq = wq at *
      go_wp2_with fail
      refine (replaced_nil g1 0 m1 cp1 f1 _ s1q HM1.out (by omega)).mono ?_
      rintro e w3 ⟨v, rfl, hown, hB3⟩
      have hB4 := below_step hBq hB3
      have hown2 := own_base hown hBq.size
      obtain ⟨A, d, rfl⟩ := own_form hown2
      clear hown hB3
      go_wp2_with fail
      go_ret2
      exact ⟨_, ends2 (by rw [HF.out]), own_res (by rw [HF.out]) HM1.out hown2, hB4⟩

theorem implNextMk_any (b off n c : Nat) (es : List EMarkovRule) (xs : List DMarkovRule) (v0 : Value) (n1 : Nat) (x : List Int) (w : World) (hs : Sl w b off (rows EMarkovRule.vs es)) (hr : RcsMarkovRule w es) (hd : es.map (·.d) = xs) (hl : xs.length = n) (hn : n ≤ 1048576) (ht : sumMarkovRule xs ≤ 1048576) (B : Nat) (hown : w.ownsRow B 2 1 v0 n1 (x.map (.int .i64))) (hn1 : n1 ≤ 1048576) :
    Calls Try.prog 92 #[.slice (some ⟨b, off, none⟩) n c, v0] w fun e w' => ∃ v, e = .returned (.tuple #[v, .int .i64 (nextMk xs x).2]) ∧
      w'.ownsRow w.heap.size 2 1 v (nextMk xs x).1.length ((nextMk xs x).1.map (.int .i64)) ∧ Below w.heap.size w w' := by
  have hl1 : x.length = n1 := by have := hown.1; rw [List.length_map] at this; omega
  rcases own_cases hown with ⟨rfl, rfl⟩ | ⟨g, d, rfl, hcap⟩
  · obtain rfl : x = [] := List.eq_nil_of_length_eq_zero hl1
    exact implNextMk_nil b off n c es xs w hs hr hd hl hn ht
  · exact implNextMk_sl b off n c es xs g 0 n1 d x w hs hr hd hl hn ht (sl_of_own hown) hl1 hn1 hcap
end Go.Proofs.Ytcfkjigapnknnaa

/- StepMarkov and RunMarkov of the program: the laws' functions. -/
namespace Go.Proofs.Ytcfkjigapnknnaa
open Go.RowKit
set_option linter.all false

theorem putL_le (x y : List Int) (k m : Nat) (h : k + m ≤ x.length) : (putL x k m y).length ≤ x.length + y.length := by rw [putL_length _ _ _ _ h]; omega
/-- What a step of the program answers, beside the reference's. -/
theorem next_cases (xs : List DMarkovRule) (x : List Int) (hv : validMks xs = true) (hx : x.length ≤ 400) : (∃ a, ruleMk x 0 xs = (-1, a) ∧ nextMk xs x = ([], -1)) ∨
    ∃ (i a : Nat) (r : DMarkovRule), xs[i]? = some r ∧ ruleMk x 0 xs = ((i : Int), a) ∧ nextMk xs x = (putL x a r.f0.length r.f1, (i : Int)) ∧ (putL x a r.f0.length r.f1).length ≤ 800 := by
  rcases ruleMk_cases x xs with ⟨h, -⟩ | ⟨i, a, r, hri, hra, h, -⟩
  · exact .inl ⟨0, h, nextMk_none h⟩
  · refine .inr ⟨i, a, r, hri, h, nextMk_some hri h, ?_⟩
    rcases findMk_cases r x with hc | ⟨a', hc, hax, hst⟩
    · rw [hra] at hc; omega
    · rw [hra] at hc
      obtain rfl : a = a' := by omega
      have h1 := putL_le x r.f1 a r.f0.length (starts_le hst)
      have h2 := isWord_len (okMk_parts (okMk_at hv (List.mem_of_getElem? hri))).2
      omega

theorem budgetOk_is (n : Int) (v : Bool) (hv : inB n 1 20000 = v) (w : World) : Calls Try.prog 88 #[.int .i64 n] w fun e w' => e = .returned (.bool v) ∧ w = w' := by
  have HV := Lib.hid hv; clear hv
  go_enter Try.func88, Try.ntmps88
  go_wp2_with fail
  refine (within_is n 1 20000 v HV.out _).mono ?_
  rintro e w' ⟨rfl, rfl⟩
  go_wp2_with fail
  go_ret
  exact ⟨rfl, rfl⟩

/-- The program's loop: the word, whether the last rule was made, against the reference's run. -/
def runLast (xs : List DMarkovRule) (f n : Nat) (w : List Int) (last : Bool) : List Int × Int × Bool × Int := if last then (w, (n : Int), true, 0) else runMk xs f n w
end Go.Proofs.Ytcfkjigapnknnaa

/- RunTagByMarkov: the model. Plain lemmas. -/
namespace Go.Proofs.Ytcfkjigapnknnaa
set_option linter.all false

/-- The word behind the front. -/
def tagW (n : Nat) : List Int → Option (List Int)
  | [] => none
  | a :: x => if a = 2 * (n : Int) then (if x.all (inB · 0 ((n : Int) - 1)) then some x else none) else none
theorem tagW_nil (n : Nat) : tagW n [] = none := rfl
theorem tagW_front {n : Nat} {a : Int} {x : List Int} (h : a ≠ 2 * (n : Int)) : tagW n (a :: x) = none := by rw [tagW, if_neg h]
theorem tagW_bad {n : Nat} {x : List Int} (h : x.all (inB · 0 ((n : Int) - 1)) = false) : tagW n (2 * (n : Int) :: x) = none := by rw [tagW, if_pos rfl, h]; rfl
theorem tagW_good {n : Nat} {x : List Int} (h : x.all (inB · 0 ((n : Int) - 1)) = true) : tagW n (2 * (n : Int) :: x) = some x := by rw [tagW, if_pos rfl, if_pos h]
theorem tagW_len {n : Nat} {w x : List Int} (h : tagW n w = some x) : x.length + 1 = w.length := by
  cases w with
  | nil => cases h
  | cons a y =>
    rw [tagW] at h
    split at h
    · split at h
      · injection h with h; subst h; rfl
      · cases h
    · cases h
def lastT (n : Nat) (w last : List Int) : List Int := (tagW n w).getD last
theorem lastT_none {n : Nat} {w last : List Int} (h : tagW n w = none) : lastT n w last = last := by rw [lastT, h]; rfl
theorem lastT_some {n : Nat} {w last x : List Int} (h : tagW n w = some x) : lastT n w last = x := by rw [lastT, h]; rfl
theorem lastT_len {n : Nat} {w last : List Int} (h : w.length ≤ 400) (k : last.length ≤ 1000) : (lastT n w last).length ≤ 1000 := by
  cases e : tagW n w with
  | none => rw [lastT_none e]; exact k
  | some x => rw [lastT_some e]; have := tagW_len e; omega
/-- The run. -/
def runT (xs : List DMarkovRule) (nl : Nat) : Nat → Nat → List Int → List Int → List Int × Int × Bool × Int
  | f, n, w, last =>
    match xs[(ruleMk w 0 xs).1.toNat]? with
    | none => (lastT nl w last, (n : Int), true, 0)
    | some r =>
      if (ruleMk w 0 xs).1 < 0 then (lastT nl w last, (n : Int), true, 0)
      else match f with
        | 0 => (lastT nl w last, (n : Int), false, 0)
        | f + 1 =>
          if (putL w (ruleMk w 0 xs).2 r.f0.length r.f1).length ≤ 400 then runT xs nl f (n + 1) (putL w (ruleMk w 0 xs).2 r.f0.length r.f1) (lastT nl w last)
          else ([], 0, false, 5)
theorem runT_none {xs : List DMarkovRule} {nl : Nat} {w last : List Int} {f n a : Nat} (h : ruleMk w 0 xs = (-1, a)) : runT xs nl f n w last = (lastT nl w last, (n : Int), true, 0) := by
  unfold runT
  rw [h]
  split
  · rfl
  · rw [if_pos (by omega)]
theorem runT_stop {xs : List DMarkovRule} {nl : Nat} {w last : List Int} {n i a : Nat} {r : DMarkovRule} (hr : xs[i]? = some r) (h : ruleMk w 0 xs = ((i : Int), a)) : runT xs nl 0 n w last = (lastT nl w last, (n : Int), false, 0) := by
  unfold runT
  rw [h]
  simp only [Int.toNat_natCast, hr]
  rw [if_neg (by omega)]
theorem runT_full {xs : List DMarkovRule} {nl : Nat} {w last : List Int} {f n i a : Nat} {r : DMarkovRule} (hr : xs[i]? = some r) (h : ruleMk w 0 xs = ((i : Int), a)) (hl : 400 < (putL w a r.f0.length r.f1).length) : runT xs nl (f + 1) n w last = ([], 0, false, 5) := by
  unfold runT
  rw [h]
  simp only [Int.toNat_natCast, hr]
  rw [if_neg (by omega), if_neg (by omega)]
theorem runT_next {xs : List DMarkovRule} {nl : Nat} {w last : List Int} {f n i a : Nat} {r : DMarkovRule} (hr : xs[i]? = some r) (h : ruleMk w 0 xs = ((i : Int), a)) (hl : (putL w a r.f0.length r.f1).length ≤ 400) : runT xs nl (f + 1) n w last = runT xs nl f (n + 1) (putL w a r.f0.length r.f1) (lastT nl w last) := by
  conv => lhs; unfold runT
  rw [h]
  simp only [Int.toNat_natCast, hr]
  rw [if_neg (by omega), if_pos hl]
theorem runT_len {xs : List DMarkovRule} {nl : Nat} : ∀ {f n : Nat} {w last : List Int}, w.length ≤ 400 → last.length ≤ 1000 → (runT xs nl f n w last).1.length ≤ 1000 := by
  intro f
  induction f with
  | zero =>
    intro n w last hw hl
    rcases ruleMk_cases w xs with ⟨h, _⟩ | ⟨i, a, r, hr, _, h, _⟩
    · rw [runT_none h]; exact lastT_len hw hl
    · rw [runT_stop hr h]; exact lastT_len hw hl
  | succ f ih =>
    intro n w last hw hl
    rcases ruleMk_cases w xs with ⟨h, _⟩ | ⟨i, a, r, hr, _, h, _⟩
    · rw [runT_none h]; exact lastT_len hw hl
    · by_cases hp : (putL w a r.f0.length r.f1).length ≤ 400
      · rw [runT_next hr h hp]; exact ih hp (lastT_len hw hl)
      · rw [runT_full hr h (by omega)]; simp
/-- The first word tells what lies behind the front, whatever was told before. -/
theorem runT_first {xs : List DMarkovRule} {nl f n : Nat} {w l1 l2 x : List Int} (h : tagW nl w = some x) : runT xs nl f n w l1 = runT xs nl f n w l2 := by
  have e : lastT nl w l1 = lastT nl w l2 := by rw [lastT_some h, lastT_some h]
  cases f with
  | zero => unfold runT; rw [e]
  | succ f => unfold runT; rw [e]
def runTagMk (d : Int) (ws : List (List Int)) (hs w : List Int) (budget : Int) : List Int × Int × Bool × Int :=
  if validTag d ws hs && overB ws.length w then
    (if inB budget 1 20000 then (if tagOk d ws hs && decide (w.length < 400) then runT (tagRules d ws hs) ws.length budget.toNat 0 (2 * (ws.length : Int) :: w) [] else ([], 0, false, 5)) else ([], 0, false, 2))
  else ([], 0, false, 1)
theorem bndRunTagByMarkov0 (d : Int) (ws : List (List Int)) (hs w : List Int) (budget : Int) (h0 : ws.length ≤ 1048576) (h1 : sumLen ws ≤ 1048576) (h2 : hs.length ≤ 1048576) (h3 : w.length ≤ 1048576) : (runTagMk d ws hs w budget).1.length ≤ 1048576 := by
  have e : (runTagMk d ws hs w budget).1 = [] ∨ (w.length < 400 ∧ (runTagMk d ws hs w budget).1 = (runT (tagRules d ws hs) ws.length budget.toNat 0 (2 * (ws.length : Int) :: w) []).1) := by
    unfold runTagMk
    by_cases k1 : (validTag d ws hs && overB ws.length w) = true
    · rw [if_pos k1]
      by_cases k2 : inB budget 1 20000 = true
      · rw [if_pos k2]
        by_cases k3 : (tagOk d ws hs && decide (w.length < 400)) = true
        · rw [if_pos k3]
          have := (Bool.and_eq_true _ _ ▸ k3).2
          exact .inr ⟨of_decide_eq_true this, rfl⟩
        · rw [if_neg k3]; exact .inl rfl
      · rw [if_neg k2]; exact .inl rfl
    · rw [if_neg k1]; exact .inl rfl
  rcases e with e | ⟨h, e⟩
  · rw [e]; exact Nat.zero_le _
  · rw [e]
    have := runT_len (xs := tagRules d ws hs) (nl := ws.length) (f := budget.toNat) (n := 0) (w := 2 * (ws.length : Int) :: w) (last := []) (by simp; omega) (by simp)
    omega
theorem overB_all {n : Nat} {x : List Int} (h : overB n x = true) : x.all (inB · 0 ((n : Int) - 1)) = true ∧ x.length ≤ 1000 := by
  unfold overB at h
  rw [Bool.and_eq_true] at h
  exact ⟨h.1, of_decide_eq_true h.2⟩
theorem overB_of {n : Nat} {x : List Int} (h : x.length ≤ 1000) : overB n x = x.all (inB · 0 ((n : Int) - 1)) := by
  unfold overB; rw [decide_eq_true h, Bool.and_true]
end Go.Proofs.Ytcfkjigapnknnaa

/- The builtin copy on rows of records; the row behind it is a variable's. Plain laws. -/
namespace Go.Proofs.Ytcfkjigapnknnaa
open Go.RowKit
set_option linter.all false

section
variable {P : Program}
theorem run_copy_rows (w : World) (dT sT ty elem : TypeId) (g o dLen dCap : Nat) (a : Addr) (sLen sCap s m : Nat) (cur : Array Value) (t : TypeId) (cs : List Value)
    (hu : P.underlying dT = some (.slice elem)) (hs : (P.info? elem).map (·.size) = some s)
    (hg : w.heap[g]? = some (.cells cur t (0, 0))) (hm : Nat.min sLen dLen = m) (hn : cs.length = m * s)
    (hsrc : ∀ j v, cs[j]? = some v → w.cell? (a.add j) = some v) (hfit : o + cs.length ≤ cur.size) (h1 : ∀ v ∈ cs, v.oneCell' = true) :
    (Builtin.copy_ #[dT, sT] ty #[.slice (some ⟨g, o, none⟩) dLen dCap, .slice (some a) sLen sCap]).run P w =
      .ok (goInt m) (w.setRow g (cur.toList.take o ++ cs ++ cur.toList.drop (o + cs.length)).toArray) := by
  have hl := run_loadCells_list (P := P) w a cs hsrc
  have hst := run_storeCells_at P g o t cs 0 cur w hg (by simpa using hfit) h1
  cases hq : P.info? elem with
  | none => simp [hq] at hs
  | some i =>
    have hi : i.size = s := by simpa [hq] using hs
    simp [Builtin.copy_, run_underlying hu, Builtin.lenOf, Builtin.firstCells, sizeOf, typeInfo, hq, hi, hm, ← hn, hl, hst]
theorem wpList_copy_rows {w : World} {ops : Array Oper} {rest : List Oper} {o : Oper} {a : Act} {Q : Exit → Act → World → Prop} (hgd : o.guard = none) (d s : Operand) (dT sT : TypeId)
    (ho : o.op = .call { callee := .builtin .copy, args := #[d, s], argTypes := #[dT, sT] }) (elem : TypeId) (hu : P.underlying dT = some (.slice elem)) {z : Nat} (hsz : (P.info? elem).map (·.size) = some z)
    (g off dLen dCap : Nat) (ad : Addr) (sLen sCap : Nat) (hd : a.eval d = .slice (some ⟨g, off, none⟩) dLen dCap) (hs : a.eval s = .slice (some ad) sLen sCap)
    (cur : List Value) (t : TypeId) (hg : w.heap[g]? = some (.cells cur.toArray t (0, 0))) (m : Nat) (hm : Nat.min sLen dLen = m) (cs : List Value) (hn : cs.length = m * z)
    (hsrc : ∀ j v, cs[j]? = some v → w.cell? (ad.add j) = some v) (hfit : off + cs.length ≤ cur.length) (h1 : ∀ v ∈ cs, v.oneCell' = true) (B : Nat) (w0 : World) (hb : Below B w0 w) (hBg : B ≤ g)
    (h : ∀ w', Hid (w'.heap[g]? = some (.cells (cur.take off ++ cs ++ cur.drop (off + cs.length)).toArray t (0, 0))) → Below B w0 w' → wpList P ops Q rest (a.put o.dst (goInt m)) w') : wpList P ops Q (o :: rest) a w := by
  refine wpList_plain hgd fun K hK => ?_
  have hrun := run_copy_rows (P := P) w dT sT o.type elem g off dLen dCap ad sLen sCap z m cur.toArray t cs hu hsz hg hm hn hsrc (by simpa using hfit) h1
  unfold Oper.wp
  simp [execOp, ho, resolve, invoke, builtin, hd, hs, hrun, Result.andThen]
  refine hK _ _ (h _ ?_ (below_setRow hb hBg _))
  have := setRow_heap w g _ (cur.take off ++ (cs ++ cur.drop (off + cs.length))).toArray t _ hg
  simpa [Hid] using this
theorem step_copy_rows {w : World} {ops : Array Oper} {o : Oper} {a : Act} {K : Act → World → Prop} {Q : Exit → Act → World → Prop} {E : Prop} (hgd : o.guard = none) (d s : Operand) (dT sT : TypeId)
    (ho : o.op = .call { callee := .builtin .copy, args := #[d, s], argTypes := #[dT, sT] }) (elem : TypeId) (hu : P.underlying dT = some (.slice elem)) {z : Nat} (hsz : (P.info? elem).map (·.size) = some z)
    (g off dLen dCap : Nat) (ad : Addr) (sLen sCap : Nat) (hd : a.eval d = .slice (some ⟨g, off, none⟩) dLen dCap) (hs : a.eval s = .slice (some ad) sLen sCap)
    (cur : List Value) (t : TypeId) (hg : w.heap[g]? = some (.cells cur.toArray t (0, 0))) (m : Nat) (hm : Nat.min sLen dLen = m) (cs : List Value) (hn : cs.length = m * z)
    (hsrc : ∀ j v, cs[j]? = some v → w.cell? (ad.add j) = some v) (hfit : off + cs.length ≤ cur.length) (h1 : ∀ v ∈ cs, v.oneCell' = true) (B : Nat) (w0 : World) (hb : Below B w0 w) (hBg : B ≤ g)
    (h : ∀ w', Hid (w'.heap[g]? = some (.cells (cur.take off ++ cs ++ cur.drop (off + cs.length)).toArray t (0, 0))) → Below B w0 w' → K (a.put o.dst (goInt m)) w') :
    if Region.wanted o (yielded ops a.tmps) = true then Oper.wp P o a w K Q else E := by
  have hw : Region.wanted o (yielded ops a.tmps) = true := by simp [Region.wanted, hgd]
  rw [if_pos hw]
  have hrun := run_copy_rows (P := P) w dT sT o.type elem g off dLen dCap ad sLen sCap z m cur.toArray t cs hu hsz hg hm hn hsrc (by simpa using hfit) h1
  unfold Oper.wp
  simp [execOp, ho, resolve, invoke, builtin, hd, hs, hrun, Result.andThen]
  refine h _ ?_ (below_setRow hb hBg _)
  have := setRow_heap w g _ (cur.take off ++ (cs ++ cur.drop (off + cs.length))).toArray t _ hg
  simpa [Hid] using this
end
/-- 'x[l:]': one address, whether room is left or not. -/
theorem run_slice_tailR {P : Program} (t e : TypeId) {z : Value} {s bytes : Nat} (ht : P.underlying t = some (.slice e)) (hinfo : (P.info? e).map (fun i => (i.zero, i.size, i.bytes)) = some (some z, s, bytes))
    (b off n c l : Nat) (i : Int) (hi : i = l) (hh : l ≤ n) (hc : n ≤ c) :
    ∃ o', (n - l = 0 ∨ o' = off + l * s) ∧ ∀ W, (Instr.slice t (.slice (some ⟨b, off, none⟩) n c) (some (.int .i64 i)) none none).run P W = .ok (.slice (some ⟨b, o', none⟩) (n - l) (c - l)) W := by
  obtain ⟨ti, hti, hz, hsize, hb⟩ := info_parts hinfo
  have he : P.elem t = e := by simp [Program.elem, ht]
  refine ⟨if c = l then off else off + l * s, ?_, fun W => ?_⟩
  · by_cases h0 : c = l
    · exact .inl (by omega)
    · exact .inr (by rw [if_neg h0])
  · rw [run_slice_l W t (some ⟨b, off, none⟩) n c (by rw [he]; exact ht) .i64 i (by omega) (by omega)]
    subst hi
    have hsz : ∀ W, (sizeOf (P.elem t)).run P W = .ok s W := by intro W; rw [he]; simp [sizeOf, typeInfo, hti, hsize]
    rw [hsz]
    simp only [Result.andThen, sliced, Int.toNat_natCast]
    by_cases h0 : c = l
    · simp [h0]
    · simp only [if_neg h0, Option.map_some]
      rw [addr_add]

/-- A row known by its block is owned. -/
theorem own_of_block {w : World} {base g n cap : Nat} {t : TypeId} {s : Nat} {xs : List Value} (h : w.heap[g]? = some (.cells xs.toArray t (0, 0))) (hb : base ≤ g) (hs : xs.length = cap * s) (hn : n ≤ cap) (hm : cap ≤ maxLen) : w.ownsRow base t s (.slice (some ⟨g, 0, none⟩) n cap) n (xs.take (n * s)) := by
  refine ⟨?_, .inr ⟨g, cap, xs.toArray, rfl, hb, h, hn, hm, by simpa using hs, by simp⟩⟩
  rw [List.length_take, hs]
  have : n * s ≤ cap * s := Nat.mul_le_mul_right _ hn
  omega
theorem made_zero2 (m : Nat) : madeCells (Value.cells (.agg #[.int .i64 0, .int .i64 0])) (m * 2) = (rows R2.vs (List.replicate m (⟨0, 0⟩ : R2))).toArray := by
  apply Array.ext
  · rw [size_madeCells]; simp [rows_len R2.vs_len]
  · intro i h1 h2
    have hi : i < m * 2 := by rw [size_madeCells] at h1; exact h1
    have e1 : (madeCells (Value.cells (.agg #[.int .i64 0, .int .i64 0])) (m * 2))[i] = .int .i64 0 := by
      have hm : i % 2 = 0 ∨ i % 2 = 1 := by omega
      rcases hm with hm | hm <;> simp [madeCells, Value.cells, hm]
    have e2 : (rows R2.vs (List.replicate m (⟨0, 0⟩ : R2)))[i]? = some (.int .i64 0) := by
      have hq : i / 2 < m := by omega
      have hx : (List.replicate m (⟨0, 0⟩ : R2))[i / 2]? = some ⟨0, 0⟩ := by simp [hq]
      have hr := rows_at R2.vs_len hx (j := i % 2) (by omega)
      rw [show i / 2 * 2 + i % 2 = i by omega] at hr
      rw [hr]
      have hm : i % 2 = 0 ∨ i % 2 = 1 := by omega
      rcases hm with hm | hm <;> simp [R2.vs, hm]
    rw [e1]
    simp only [List.getElem_toArray]
    have := List.getElem?_eq_some_iff.1 e2
    exact this.2.symm
end Go.Proofs.Ytcfkjigapnknnaa

/- RunTagByMarkov: the word behind the front, on both sides. -/
namespace Go.Proofs.Ytcfkjigapnknnaa
open Go.RowKit
set_option linter.all false

theorem l09Good_is (gt : Nat) (Aw : Option Addr) (nw cw : Nat) (A : Option Addr) (n c : Nat) (xs : List Int) (v : Bool) (hv : overB nw xs = v) (w : World) (t1 : w.cell? ⟨gt, 1, none⟩ = some (.slice Aw nw cw)) (ha : Arg w A n (xs.map (.int .i64))) (hn : n ≤ 4194304) (hnw : nw ≤ 1048576) :
    Calls Try.prog 81 #[.pointer (some ⟨gt, 0, none⟩), .slice A n c] w fun e w' => e = .returned (.bool v) ∧ w = w' := by
  have HV := Lib.hid hv; clear hv
  go_enter Try.func81, Try.ntmps81
  go_wp2_with fail
  refine (l09Over_is A n c nw xs v HV.out _ ha hn hnw).mono ?_
  rintro e w' ⟨rfl, rfl⟩
  go_wp2_with fail
  go_ret
  exact ⟨rfl, rfl⟩

theorem tail_src {w : World} {b o m : Nat} {a : Int} {x : List Int} {o' : Nat} (hs : Sl w b o ((a :: x).map (Value.int .i64))) (hl : (a :: x).length = m) (ho : m - 1 = 0 ∨ o' = o + 1 * 1) : Sl w b o' (x.map (Value.int .i64)) ∧ x.length = m - 1 := by
  have hx : x.length = m - 1 := by rw [← hl]; simp
  refine ⟨?_, hx⟩
  rcases ho with h | h
  · rw [List.eq_nil_of_length_eq_zero (hx.trans h)]; exact Sl.empty hs.1
  · have := hs.from 1
    rw [h]; simpa using this

set_option maxRecDepth 100000 in
set_option maxHeartbeats 1000000 in
theorem l16Tag_no (gt : Nat) (Aw : Option Addr) (nw cw : Nat) (b o m c : Nat) (y : List Int) (ho : tagW nw y = none) (w : World) (t1 : w.cell? ⟨gt, 1, none⟩ = some (.slice Aw nw cw)) (hs : Sl w b o (y.map (.int .i64))) (hl : y.length = m) (hm : m ≤ 1000) (hc : m ≤ c) (hnw : nw ≤ 100) :
    Calls Try.prog 84 #[.pointer (some ⟨gt, 0, none⟩), .slice (some ⟨b, o, none⟩) m c] w fun e w' => e = .returned (.tuple #[.slice none 0 0, .bool false]) ∧ ∃ q, w' = w.drewN q := by
  cases y with
  | nil =>
    obtain rfl : m = 0 := by rw [← hl]; rfl
    clear ho hl
    go_enter Try.func84, Try.ntmps84
    go_wp2_with fail
    go_quiet (fail)
    go_wp2_with fail
    go_ret2
    exact ⟨rfl, _, rfl⟩
  | cons a x =>
    have hm1 : 0 < m := by rw [← hl]; simp
    have hca : w.cell? ⟨b, o, none⟩ = some (.int .i64 a) := by have := hs.at (j := 0) (u := .int .i64 a) rfl; simpa using this
    obtain ⟨o', ho', hsl⟩ := run_slice_tailR (P := Try.prog) 25 2 Try.underlying25 infoInt64S b o m c 1 1 rfl (by omega) hc
    obtain ⟨hst, hxl⟩ := tail_src hs hl ho'
    have HAT := Lib.hid (Arg.of_sl (n := m - 1) hst (by simpa using hxl))
    have HXL := Lib.hid hxl
    have hm0 : ((m : Int) == 0) = false := by simp; omega
    by_cases hfa : a = 2 * (nw : Int)
    rotate_left
    · have e1 : (a == 2 * (nw : Int)) = false := by simpa using hfa
      have e2 : (a != 2 * (nw : Int)) = true := by simp [bne, e1]
      clear ho hl hs hst hxl ho' hfa
      go_enter Try.func84, Try.ntmps84
      go_wp2_with fail
      go_quiet ((go_at_call 83; exact quiet_eq (l16Front_is gt Aw nw cw _ (by exact t1) (by omega))))
      go_wp2_with fail
      go_ret2
      exact ⟨rfl, _, rfl⟩
    · have hall : overB nw x = false := by
        rw [overB_of (by omega)]
        rcases Bool.eq_false_or_eq_true (x.all (inB · 0 ((nw : Int) - 1))) with h | h
        · rw [hfa, tagW_good h] at ho; cases ho
        · exact h
      have HALL := Lib.hid hall
      have e1 : (a == 2 * (nw : Int)) = true := by simpa using hfa
      have e2 : (a != 2 * (nw : Int)) = false := by simp [bne, e1]
      clear ho hl hs hst hxl ho' hfa hall
      go_enter Try.func84, Try.ntmps84
      go_wp2_with fail
      go_quiet ((first | (go_at_call 83; exact quiet_eq (l16Front_is gt Aw nw cw _ (by exact t1) (by omega))) | (go_at_call 81; exact quiet_eq (l09Good_is gt Aw nw cw _ _ _ x false HALL.out _ (by exact t1) (by exact HAT.out) (by omega) (by omega)))))
      go_wp2_with fail
      go_ret2
      exact ⟨rfl, _, rfl⟩

theorem tagW_form {n : Nat} {y x : List Int} (h : tagW n y = some x) : y = 2 * (n : Int) :: x ∧ x.all (inB · 0 ((n : Int) - 1)) = true := by
  cases y with
  | nil => cases h
  | cons a z =>
    rw [tagW] at h
    split at h
    · rename_i ha
      split at h
      · rename_i hz; injection h with h; subst h; exact ⟨by rw [ha], hz⟩
      · cases h
    · cases h

set_option maxRecDepth 100000 in
set_option maxHeartbeats 1000000 in
theorem l16Tag_yes (gt : Nat) (Aw : Option Addr) (nw cw : Nat) (b o m c : Nat) (y x : List Int) (ho : tagW nw y = some x) (w : World) (t1 : w.cell? ⟨gt, 1, none⟩ = some (.slice Aw nw cw)) (hs : Sl w b o (y.map (.int .i64))) (hl : y.length = m) (hm : m ≤ 1000) (hc : m ≤ c) (hnw : nw ≤ 100) :
    Calls Try.prog 84 #[.pointer (some ⟨gt, 0, none⟩), .slice (some ⟨b, o, none⟩) m c] w fun e w' => ∃ v, e = .returned (.tuple #[v, .bool true]) ∧ w'.ownsRow w.heap.size 2 1 v (m - 1) (x.map (.int .i64)) ∧ Below w.heap.size w w' := by
  obtain ⟨rfl, hall⟩ := tagW_form ho
  have hm1 : 0 < m := by rw [← hl]; simp
  have hca : w.cell? ⟨b, o, none⟩ = some (.int .i64 (2 * (nw : Int))) := by have := hs.at (j := 0) (u := .int .i64 (2 * (nw : Int))) rfl; simpa using this
  obtain ⟨o', ho', hsl⟩ := run_slice_tailR (P := Try.prog) 25 2 Try.underlying25 infoInt64S b o m c 1 1 rfl (by omega) hc
  obtain ⟨hst, hxl⟩ := tail_src hs hl ho'
  have HAT := Lib.hid (Arg.of_sl (n := m - 1) hst (by simpa using hxl))
  have HXL := Lib.hid hxl
  have HST := Lib.hid hst
  have hm0 : ((m : Int) == 0) = false := by simp; omega
  have HALL : Hid (overB nw x = true) := by unfold Hid; rw [overB_of (by omega)]; exact hall
  have e1 : ((2 * (nw : Int)) == 2 * (nw : Int)) = true := by simp
  have e2 : ((2 * (nw : Int)) != 2 * (nw : Int)) = false := by simp [bne]
  clear ho hl hs hst hxl ho' hall
  go_enter Try.func84, Try.ntmps84
  go_wp2_with fail
  go_quiet ((first | (go_at_call 83; exact quiet_eq (l16Front_is gt Aw nw cw _ (by exact t1) (by omega))) | (go_at_call 81; exact quiet_eq (l09Good_is gt Aw nw cw _ _ _ x true HALL.out _ (by exact t1) (by exact HAT.out) (by omega) (by omega)))))
  have hbq : Below w.heap.size w (w.drewN nq) := below_drewN (Below.refl _ _) nq
  have hstq : Sl (w.drewN nq) b o' (x.map (.int .i64)) := HST.out
  clear hca t1 HAT HST
  generalize w.drewN nq = wq at *
  go_wp2_with fail
  refine (l00OwnA_any b o' (m - 1) _ x _ hstq HXL.out (by omega)).mono ?_
  rintro e w2 ⟨g, d, rfl, own2, b2, hd⟩
  go_wp2_with fail
  go_ret2
  exact ⟨_, rfl, own_base own2 hbq.size, below_step hbq b2⟩

set_option maxRecDepth 100000 in
set_option maxHeartbeats 1000000 in
theorem tagOfWord_no (f : Int) (Aw : Option Addr) (nw cw : Nat) (v2 : Value) (h2 : v2.oneCell' = true) (A : Option Addr) (m c : Nat) (y : List Int) (ho : tagW nw y = none) (w : World) (ha : Arg w A m (y.map (.int .i64))) (hm : m ≤ 1000) (hc : m ≤ c) (hnw : 2 * nw ≤ 9) :
    Calls Try.prog 91 #[.agg #[.int .i64 f, .slice Aw nw cw, v2], .slice A m c] w fun e w' => e = .returned (.tuple #[.slice none 0 0, .bool false]) ∧ Below w.heap.size w w' := by
  obtain ⟨w1, HW1, B1, x1⟩ := al1 w (.cells #[.int .i64 f, .slice Aw nw cw, v2] 61)
  have l0 : w1.cell? ⟨w.heap.size, 0, none⟩ = some (.int .i64 f) := by rw [cell_of_heap x1]; rfl
  have l1 : w1.cell? ⟨w.heap.size, 1, none⟩ = some (.slice Aw nw cw) := by rw [cell_of_heap x1]; rfl
  have l2 : w1.cell? ⟨w.heap.size, 2, none⟩ = some v2 := by rw [cell_of_heap x1]; rfl
  have hl : y.length = m := by have := ha.1; simpa using this
  clear x1
  have ha1 := ha.below B1
  clear ha
  cases y with
  | nil =>
    obtain rfl : m = 0 := by rw [← hl]; rfl
    clear ho hl
    go_enter Try.func91, Try.ntmps91
    go_wp2_with fail
    rw [← HW1.out]
    refine (tagFront_yes f _ nw cw _ _ hnw).mono ?_
    rintro e w2 ⟨rfl, b2⟩
    have B2 := below_step B1 b2
    go_wp2_with fail
    go_ret2
    exact ⟨rfl, B2⟩
  | cons a x =>
    have hm1 : 0 < m := by rw [← hl]; simp
    obtain ⟨b, o, rfl, hs⟩ := ha1.sl hm1
    obtain ⟨o', ho', hsl⟩ := run_slice_tailR (P := Try.prog) 25 2 Try.underlying25 infoInt64S b o m c 1 1 rfl (by omega) hc
    have HS := Lib.hid hs
    have HO := Lib.hid ho'
    have HLX := Lib.hid hl
    have hm0 : ((m : Int) == 0) = false := by simp; omega
    have wn : IntKind.i64.wrap ((nw : Int) - 1) = (nw : Int) - 1 := IntWalk.i64_in _ (by omega)
    by_cases hfa : a = 2 * (nw : Int)
    rotate_left
    · have e1 : (a == 2 * (nw : Int)) = false := by simpa using hfa
      have e2 : (a != 2 * (nw : Int)) = true := by simp [bne, e1]
      clear ho hl hs ho' hfa ha1
      go_enter Try.func91, Try.ntmps91
      go_wp2_with fail
      rw [← HW1.out]
      refine (tagFront_yes f _ nw cw _ _ hnw).mono ?_
      rintro e w2 ⟨rfl, b2⟩
      have B2 := below_step B1 b2
      have hca : w2.cell? ⟨b, o, none⟩ = some (.int .i64 a) := by have := (HS.out.below' b2).at (j := 0) (u := .int .i64 a) rfl; simpa using this
      go_wp2_with fail
      go_ret2
      exact ⟨rfl, B2⟩
    · have hall : x.all (inB · 0 ((nw : Int) - 1)) = false := by
        rcases Bool.eq_false_or_eq_true (x.all (inB · 0 ((nw : Int) - 1))) with h | h
        · rw [hfa, tagW_good h] at ho; cases ho
        · exact h
      have HALL := Lib.hid hall
      have e1 : (a == 2 * (nw : Int)) = true := by simpa using hfa
      have e2 : (a != 2 * (nw : Int)) = false := by simp [bne, e1]
      clear ho hl hs ho' hfa ha1 hall
      go_enter Try.func91, Try.ntmps91
      go_wp2_with fail
      rw [← HW1.out]
      refine (tagFront_yes f _ nw cw _ _ hnw).mono ?_
      rintro e w2 ⟨rfl, b2⟩
      have B2 := below_step B1 b2
      have hca : w2.cell? ⟨b, o, none⟩ = some (.int .i64 a) := by have := (HS.out.below' b2).at (j := 0) (u := .int .i64 a) rfl; simpa using this
      have hst := Lib.hid (tail_src (HS.out.below' b2) HLX.out HO.out)
      go_wp2_with fail
      refine (allWithin_is b o' (m - 1) _ x 0 ((nw : Int) - 1) false HALL.out _ hst.out.1 hst.out.2 (by omega)).mono ?_
      rintro e w' ⟨rfl, rfl⟩
      go_wp2_with fail
      go_ret2
      exact ⟨rfl, B2⟩

set_option maxRecDepth 100000 in
set_option maxHeartbeats 1000000 in
theorem tagOfWord_yes (f : Int) (Aw : Option Addr) (nw cw : Nat) (v2 : Value) (h2 : v2.oneCell' = true) (A : Option Addr) (m c : Nat) (y x : List Int) (ho : tagW nw y = some x) (w : World) (ha : Arg w A m (y.map (.int .i64))) (hm : m ≤ 1000) (hc : m ≤ c) (hnw : 2 * nw ≤ 9) :
    Calls Try.prog 91 #[.agg #[.int .i64 f, .slice Aw nw cw, v2], .slice A m c] w fun e w' => ∃ v, e = .returned (.tuple #[v, .bool true]) ∧ w'.ownsRow w.heap.size 2 1 v (m - 1) (x.map (.int .i64)) ∧ Below w.heap.size w w' := by
  obtain ⟨w1, HW1, B1, x1⟩ := al1 w (.cells #[.int .i64 f, .slice Aw nw cw, v2] 61)
  have l0 : w1.cell? ⟨w.heap.size, 0, none⟩ = some (.int .i64 f) := by rw [cell_of_heap x1]; rfl
  have l1 : w1.cell? ⟨w.heap.size, 1, none⟩ = some (.slice Aw nw cw) := by rw [cell_of_heap x1]; rfl
  have l2 : w1.cell? ⟨w.heap.size, 2, none⟩ = some v2 := by rw [cell_of_heap x1]; rfl
  have hl : y.length = m := by have := ha.1; simpa using this
  clear x1
  have ha1 := ha.below B1
  clear ha
  obtain ⟨rfl, hall⟩ := tagW_form ho
  have hm1 : 0 < m := by rw [← hl]; simp
  obtain ⟨b, o, rfl, hs⟩ := ha1.sl hm1
  obtain ⟨o', ho', hsl⟩ := run_slice_tailR (P := Try.prog) 25 2 Try.underlying25 infoInt64S b o m c 1 1 rfl (by omega) hc
  have HS := Lib.hid hs
  have HO := Lib.hid ho'
  have HLX := Lib.hid hl
  have HALL := Lib.hid hall
  have hm0 : ((m : Int) == 0) = false := by simp; omega
  have wn : IntKind.i64.wrap ((nw : Int) - 1) = (nw : Int) - 1 := IntWalk.i64_in _ (by omega)
  have e1 : ((2 * (nw : Int)) == 2 * (nw : Int)) = true := by simp
  have e2 : ((2 * (nw : Int)) != 2 * (nw : Int)) = false := by simp [bne]
  clear ho hl hs ho' ha1 hall
  go_enter Try.func91, Try.ntmps91
  go_wp2_with fail
  rw [← HW1.out]
  refine (tagFront_yes f _ nw cw _ _ hnw).mono ?_
  rintro e w2 ⟨rfl, b2⟩
  have B2 := below_step B1 b2
  have hca : w2.cell? ⟨b, o, none⟩ = some (.int .i64 (2 * (nw : Int))) := by have := (HS.out.below' b2).at (j := 0) (u := .int .i64 (2 * (nw : Int))) rfl; simpa using this
  have hst := Lib.hid (tail_src (HS.out.below' b2) HLX.out HO.out)
  go_wp2_with fail
  refine (allWithin_is b o' (m - 1) _ x 0 ((nw : Int) - 1) true HALL.out _ hst.out.1 hst.out.2 (by omega)).mono ?_
  rintro e w' ⟨rfl, hw'⟩
  subst hw'
  go_wp2_with fail
  refine (cloneA_any b o' (m - 1) _ x _ hst.out.1 hst.out.2 (by omega)).mono ?_
  rintro e w3 ⟨g, d, rfl, own3, b3, hd⟩
  go_wp2_with fail
  go_ret2
  exact ⟨_, rfl, own_base own3 B2.size, below_step B2 b3⟩
end Go.Proofs.Ytcfkjigapnknnaa

/- RunTagByMarkov of the program. -/
namespace Go.Proofs.Ytcfkjigapnknnaa
open Go.RowKit
set_option linter.all false

set_option maxRecDepth 100000 in
set_option maxHeartbeats 1000000 in
theorem tagCode_bad (d : Int) (bw ow nw cw : Nat) (us : List Value) (ws : List (List Int)) (bh oh nh ch : Nat) (hs : List Int) (b o m c : Nat) (x : List Int) (hv : (validTag d ws hs && overB nw x) = false) (w : World)
    (sw : Sl w bw ow us) (sr : Srcs 1 oneI w us ws) (lw : ws.length = nw) (hnw : nw ≤ 1048576) (hsum : sumLen ws ≤ 1048576) (sh : Sl w bh oh (hs.map (.int .i64))) (lh : hs.length = nh) (hnh : nh ≤ 1048576) (sx : Sl w b o (x.map (.int .i64))) (lx : x.length = m) (hm : m ≤ 1048576) :
    Calls Try.prog 87 #[.agg #[.int .i64 d, .slice (some ⟨bw, ow, none⟩) nw cw, .slice (some ⟨bh, oh, none⟩) nh ch], .slice (some ⟨b, o, none⟩) m c] w fun e w' => e = .returned (.int .i64 1) ∧ Below w.heap.size w w' := by
  obtain ⟨w1, HW1, B1, x1⟩ := al1 w (.cells #[.int .i64 d, .slice (some ⟨bw, ow, none⟩) nw cw, .slice (some ⟨bh, oh, none⟩) nh ch] 61)
  have l0 : w1.cell? ⟨w.heap.size, 0, none⟩ = some (.int .i64 d) := by rw [cell_of_heap x1]; rfl
  have l1 : w1.cell? ⟨w.heap.size, 1, none⟩ = some (.slice (some ⟨bw, ow, none⟩) nw cw) := by rw [cell_of_heap x1]; rfl
  have l2 : w1.cell? ⟨w.heap.size, 2, none⟩ = some (.slice (some ⟨bh, oh, none⟩) nh ch) := by rw [cell_of_heap x1]; rfl
  have HLW := Lib.hid lw; have HLH := Lib.hid lh; have HSUM := Lib.hid hsum; have HLX := Lib.hid lx
  have sw1 := sw.below' B1; have sr1 := sr.below B1; have sh1 := sh.below' B1; have sx1 := sx.below' B1
  clear x1 sw sr sh sx lw lh hsum lx
  rcases Bool.eq_false_or_eq_true (validTag d ws hs) with h1 | h1
  rotate_left
  · have H1 := Lib.hid h1
    clear hv h1
    go_enter Try.func87, Try.ntmps87
    go_wp2_with fail
    rw [← HW1.out]
    refine (implValidTag_is d bw ow nw cw us ws bh oh nh ch hs false H1.out w1 sw1 sr1 HLW.out hnw HSUM.out sh1 HLH.out hnh).mono ?_
    rintro e w2 ⟨rfl, b2⟩
    have B2 := below_step B1 b2
    go_wp2_with fail
    go_ret
    exact ⟨rfl, B2⟩
  have H1 := Lib.hid h1
  have H2 : Hid (overB nw x = false) := by unfold Hid; rw [h1, Bool.true_and] at hv; exact hv
  clear hv h1
  go_enter Try.func87, Try.ntmps87
  go_wp2_with fail
  rw [← HW1.out]
  refine (implValidTag_is d bw ow nw cw us ws bh oh nh ch hs true H1.out w1 sw1 sr1 HLW.out hnw HSUM.out sh1 HLH.out hnh).mono ?_
  rintro e w2 ⟨rfl, b2⟩
  have B2 := below_step B1 b2
  have m1 := cell_step (by exact l1) b2
  have sx2 := sx1.below' b2
  go_wp2_with fail
  refine (sizeWordsT_is _ nw cw _).mono ?_
  rintro e w' ⟨rfl, hw'⟩
  subst hw'
  go_wp2_with fail
  refine (isTagWord_is b o m c nw x false H2.out _ sx2 HLX.out (by omega) hnw).mono ?_
  rintro e w' ⟨rfl, rfl⟩
  go_wp2_with fail
  go_ret
  exact ⟨rfl, B2⟩

set_option maxRecDepth 100000 in
set_option maxHeartbeats 1000000 in
theorem tagCode_ok (d : Int) (bw ow nw cw : Nat) (us : List Value) (ws : List (List Int)) (bh oh nh ch : Nat) (hs : List Int) (b o m c : Nat) (x : List Int) (h1 : validTag d ws hs = true) (h2 : overB nw x = true) (w : World)
    (sw : Sl w bw ow us) (sr : Srcs 1 oneI w us ws) (lw : ws.length = nw) (hnw : nw ≤ 1048576) (hsum : sumLen ws ≤ 1048576) (sh : Sl w bh oh (hs.map (.int .i64))) (lh : hs.length = nh) (hnh : nh ≤ 1048576) (sx : Sl w b o (x.map (.int .i64))) (lx : x.length = m) (hm : m ≤ 1048576) :
    Calls Try.prog 87 #[.agg #[.int .i64 d, .slice (some ⟨bw, ow, none⟩) nw cw, .slice (some ⟨bh, oh, none⟩) nh ch], .slice (some ⟨b, o, none⟩) m c] w fun e w' => e = .returned (.int .i64 0) ∧ Below w.heap.size w w' := by
  obtain ⟨w1, HW1, B1, x1⟩ := al1 w (.cells #[.int .i64 d, .slice (some ⟨bw, ow, none⟩) nw cw, .slice (some ⟨bh, oh, none⟩) nh ch] 61)
  have l0 : w1.cell? ⟨w.heap.size, 0, none⟩ = some (.int .i64 d) := by rw [cell_of_heap x1]; rfl
  have l1 : w1.cell? ⟨w.heap.size, 1, none⟩ = some (.slice (some ⟨bw, ow, none⟩) nw cw) := by rw [cell_of_heap x1]; rfl
  have l2 : w1.cell? ⟨w.heap.size, 2, none⟩ = some (.slice (some ⟨bh, oh, none⟩) nh ch) := by rw [cell_of_heap x1]; rfl
  have HLW := Lib.hid lw; have HLH := Lib.hid lh; have HSUM := Lib.hid hsum; have HLX := Lib.hid lx
  have sw1 := sw.below' B1; have sr1 := sr.below B1; have sh1 := sh.below' B1; have sx1 := sx.below' B1
  have H1 := Lib.hid h1
  have H2 := Lib.hid h2
  clear x1 sw sr sh sx lw lh hsum lx h1 h2
  go_enter Try.func87, Try.ntmps87
  go_wp2_with fail
  rw [← HW1.out]
  refine (implValidTag_is d bw ow nw cw us ws bh oh nh ch hs true H1.out w1 sw1 sr1 HLW.out hnw HSUM.out sh1 HLH.out hnh).mono ?_
  rintro e w2 ⟨rfl, b2⟩
  have B2 := below_step B1 b2
  have m1 := cell_step (by exact l1) b2
  have sx2 := sx1.below' b2
  go_wp2_with fail
  refine (sizeWordsT_is _ nw cw _).mono ?_
  rintro e w' ⟨rfl, hw'⟩
  subst hw'
  go_wp2_with fail
  refine (isTagWord_is b o m c nw x true H2.out _ sx2 HLX.out (by omega) hnw).mono ?_
  rintro e w' ⟨rfl, rfl⟩
  go_wp2_with fail
  go_ret
  exact ⟨rfl, B2⟩

set_option maxRecDepth 100000 in
set_option maxHeartbeats 1000000 in
theorem wordOfTag_any (d : Int) (bw ow nw cw : Nat) (us : List Value) (ws : List (List Int)) (bh oh nh ch : Nat) (hs : List Int) (b o m c : Nat) (x : List Int) (h1 : validTag d ws hs = true) (h2 : overB nw x = true) (w : World) (hf : 2 * nw ≤ 9)
    (sw : Sl w bw ow us) (sr : Srcs 1 oneI w us ws) (lw : ws.length = nw) (hsum : sumLen ws ≤ 1048576) (sh : Sl w bh oh (hs.map (.int .i64))) (lh : hs.length = nh) (hnh : nh ≤ 1048576) (sx : Sl w b o (x.map (.int .i64))) (lx : x.length = m) (hm : m ≤ 1048576) :
    Calls Try.prog 89 #[.agg #[.int .i64 d, .slice (some ⟨bw, ow, none⟩) nw cw, .slice (some ⟨bh, oh, none⟩) nh ch], .slice (some ⟨b, o, none⟩) m c] w fun e w' =>
      (m < 400 → ∃ v, e = .returned (.tuple #[v, .int .i64 0]) ∧ w'.ownsRow w.heap.size 2 1 v (1 + m) ((2 * (nw : Int) :: x).map (.int .i64))) ∧ (400 ≤ m → e = .returned (.tuple #[.slice none 0 0, .int .i64 5])) ∧ Below w.heap.size w w' := by
  obtain ⟨w1, HW1, B1, x1⟩ := al1 w (.cells #[.int .i64 d, .slice (some ⟨bw, ow, none⟩) nw cw, .slice (some ⟨bh, oh, none⟩) nh ch] 61)
  have l0 : w1.cell? ⟨w.heap.size, 0, none⟩ = some (.int .i64 d) := by rw [cell_of_heap x1]; rfl
  have l1 : w1.cell? ⟨w.heap.size, 1, none⟩ = some (.slice (some ⟨bw, ow, none⟩) nw cw) := by rw [cell_of_heap x1]; rfl
  have l2 : w1.cell? ⟨w.heap.size, 2, none⟩ = some (.slice (some ⟨bh, oh, none⟩) nh ch) := by rw [cell_of_heap x1]; rfl
  have HLW := Lib.hid lw; have HLH := Lib.hid lh; have HSUM := Lib.hid hsum; have HLX := Lib.hid lx
  have sw1 := sw.below' B1; have sr1 := sr.below B1; have sh1 := sh.below' B1; have sx1 := sx.below' B1
  have H1 := Lib.hid h1
  have H2 := Lib.hid h2
  clear x1 sw sr sh sx lw lh hsum lx h1 h2
  go_enter Try.func89, Try.ntmps89
  go_wp2_with fail
  rw [← HW1.out]
  refine (tagCode_ok d bw ow nw cw us ws bh oh nh ch hs b o m c x H1.out H2.out w1 sw1 sr1 HLW.out (by omega) HSUM.out sh1 HLH.out hnh sx1 HLX.out hm).mono ?_
  rintro e w2 ⟨rfl, b2⟩
  have B2 := below_step B1 b2
  have m0 := cell_step (by exact l0) b2
  have m1 := cell_step (by exact l1) b2
  have m2 := cell_step (by exact l2) b2
  have sx2 := sx1.below' b2
  clear l0 l1 l2
  go_wp2_with fail
  refine (tagFront_yes d _ nw cw _ _ hf).mono ?_
  rintro e w3 ⟨rfl, b3⟩
  have B3 := below_step B2 b3
  have sx3 := sx2.below' b3
  obtain ⟨wa, HWA, BA, xa, ya⟩ := al2 w3 (.cells #[.int .i64 (2 * (nw : Int))] 2) (.cells #[.slice (some ⟨w3.heap.size, 0, none⟩) 1 1, .slice (some ⟨b, o, none⟩) m c] 25)
  have sla : Sl wa (w3.heap.size + 1) 0 [.slice (some ⟨w3.heap.size, 0, none⟩) 1 1, .slice (some ⟨b, o, none⟩) m c] := ⟨heap_lt ya, fun q v hq => by rw [cell_of_heap ya]; simpa using hq⟩
  have sb : Src 1 wa (.slice (some ⟨w3.heap.size, 0, none⟩) 1 1) 1 ([2 * (nw : Int)].map (Value.int .i64)) := Src.of_sl ⟨heap_lt xa, fun q v hq => by rw [cell_of_heap xa]; simpa using hq⟩ rfl
  have sa : Src 1 wa (.slice (some ⟨b, o, none⟩) m c) m (x.map (Value.int .i64)) := Src.of_sl (sx3.below' BA) (by have := HLX.out; simp; omega)
  have BW := below_step B3 BA
  clear xa ya m0 m1 m2
  go_wp2_with fail
  rw [← HWA.out]
  refine (joined2_any (w3.heap.size + 1) _ _ 1 m [2 * (nw : Int)] x wa sla sb sa (by omega) (by omega)).mono ?_
  rintro e wb ⟨v, rfl, ownv, bb⟩
  have BB := below_step BW bb
  have ownv2 := own_base ownv BW.size
  obtain ⟨A, cv, rfl⟩ := own_form ownv
  clear ownv bb
  by_cases h4 : m < 400
  · go_wp2_with fail
    refine (fitting_yes (1 + m) _ A cv (by omega)).mono ?_
    rintro e w' ⟨rfl, rfl⟩
    go_wp2_with fail
    go_ret2
    exact ⟨fun _ => ⟨_, rfl, ownv2⟩, fun h => by omega, BB⟩
  · go_wp2_with fail
    refine (fitting_no (1 + m) _ A cv (by omega) (by omega)).mono ?_
    rintro e w' ⟨rfl, rfl⟩
    go_wp2_with fail
    go_ret2
    exact ⟨fun h => by omega, fun _ => rfl, BB⟩
end Go.Proofs.Ytcfkjigapnknnaa

/- RunTagByMarkov of the program: the walk. -/
namespace Go.Proofs.Ytcfkjigapnknnaa
open Go.RowKit
set_option linter.all false

theorem runTagMk_bad {d : Int} {ws : List (List Int)} {hs w : List Int} {bd : Int} (h : (validTag d ws hs && overB ws.length w) = false) : runTagMk d ws hs w bd = ([], 0, false, 1) := by unfold runTagMk; rw [h]; rfl
theorem runTagMk_out {d : Int} {ws : List (List Int)} {hs w : List Int} {bd : Int} (h : (validTag d ws hs && overB ws.length w) = true) (h2 : inB bd 1 20000 = false) : runTagMk d ws hs w bd = ([], 0, false, 2) := by unfold runTagMk; rw [if_pos h, h2]; rfl
theorem runTagMk_full {d : Int} {ws : List (List Int)} {hs w : List Int} {bd : Int} (h : (validTag d ws hs && overB ws.length w) = true) (h2 : inB bd 1 20000 = true) (h3 : (tagOk d ws hs && decide (w.length < 400)) = false) : runTagMk d ws hs w bd = ([], 0, false, 5) := by unfold runTagMk; rw [if_pos h, if_pos h2, h3]; rfl
theorem runTagMk_run {d : Int} {ws : List (List Int)} {hs w : List Int} {f : Nat} (h : (validTag d ws hs && overB ws.length w) = true) (h2 : inB (f : Int) 1 20000 = true) (h3 : (tagOk d ws hs && decide (w.length < 400)) = true) : runTagMk d ws hs w f = runT (tagRules d ws hs) ws.length f 0 (2 * (ws.length : Int) :: w) [] := by unfold runTagMk; rw [if_pos h, if_pos h2, if_pos h3]; rfl

set_option maxRecDepth 100000 in
set_option maxHeartbeats 4000000 in
theorem implRunTagByMarkov_any (d : Int) (bw nw cw : Nat) (us : List Value) (ws : List (List Int)) (bh nh ch : Nat) (hs : List Int) (b o m c : Nat) (x : List Int) (bd : Int) (w : World) (wf : Wf64 d)
    (sw : Sl w bw 0 us) (sr : Srcs 1 oneI w us ws) (lw : ws.length = nw) (hnw : nw ≤ 1048576) (hcw : nw ≤ cw) (hsum : sumLen ws ≤ 1048576) (au : AdrW us) (sh : Sl w bh 0 (hs.map (.int .i64))) (lh : hs.length = nh) (hnh : nh ≤ 1048576) (hch : nh ≤ ch)
    (sx : Sl w b o (x.map (.int .i64))) (lx : x.length = m) (hm : m ≤ 1048576) (hc : m ≤ c) (wfx : Wf64s x) (wfb : Wf64 bd) :
    Calls Try.prog 43 #[.agg #[.int .i64 d, .slice (some ⟨bw, 0, none⟩) nw cw, .slice (some ⟨bh, 0, none⟩) nh ch], .slice (some ⟨b, o, none⟩) m c, .int .i64 bd] w fun e w' => ∃ v, e = .returned (.tuple #[v, .int .i64 (runTagMk d ws hs x bd).2.1, .bool (runTagMk d ws hs x bd).2.2.1, .int .i64 (runTagMk d ws hs x bd).2.2.2]) ∧
      w'.ownsRow w.heap.size 2 1 v (runTagMk d ws hs x bd).1.length ((runTagMk d ws hs x bd).1.map (.int .i64)) ∧ Below w.heap.size w w' := by
  obtain ⟨w1, HW1, B1, x1⟩ := al1 w (.cells #[.int .i64 d, .slice (some ⟨bw, 0, none⟩) nw cw, .slice (some ⟨bh, 0, none⟩) nh ch] 61)
  have l0 : w1.cell? ⟨w.heap.size, 0, none⟩ = some (.int .i64 d) := by rw [cell_of_heap x1]; rfl
  have l1 : w1.cell? ⟨w.heap.size, 1, none⟩ = some (.slice (some ⟨bw, 0, none⟩) nw cw) := by rw [cell_of_heap x1]; rfl
  have l2 : w1.cell? ⟨w.heap.size, 2, none⟩ = some (.slice (some ⟨bh, 0, none⟩) nh ch) := by rw [cell_of_heap x1]; rfl
  have L0 := Lib.hid l0; have L1 := Lib.hid l1; have L2 := Lib.hid l2
  have HLW := Lib.hid lw; have HLH := Lib.hid lh; have HSUM := Lib.hid hsum; have HLX := Lib.hid lx; have HAU := Lib.hid au
  have sw1 := sw.below' B1; have sr1 := sr.below B1; have sh1 := sh.below' B1; have sx1 := sx.below' B1
  clear x1 sw sr sh sx lh hsum lx au wf wfx wfb hcw hch
  go_enter Try.func43, Try.ntmps43
  go_wp2_with fail
  rw [← HW1.out]
  rcases Bool.eq_false_or_eq_true (validTag d ws hs && overB nw x) with h1 | h1
  rotate_left
  · have HF : Hid (runTagMk d ws hs x bd = ([], 0, false, 1)) := runTagMk_bad (by rw [lw]; exact h1)
    have H1 := Lib.hid h1; clear h1 lw
    refine (tagCode_bad d bw 0 nw cw us ws bh 0 nh ch hs b o m c x H1.out w1 sw1 sr1 HLW.out hnw HSUM.out sh1 HLH.out hnh sx1 HLX.out hm).mono ?_
    rintro e w2 ⟨rfl, b2⟩
    have B2 := below_step B1 b2
    go_wp2_with fail
    ((try simp only [Exit.inBlock, Exit.then]); refine bodyPost_ret (results_tmp4 rfl _ _ _) rfl ?_)
    exact ⟨_, ends4 (by rw [HF.out]) (by rw [HF.out]) (by rw [HF.out]), own_res0 (by rw [HF.out]), B2⟩
  have H1 := Lib.hid h1
  have HG : Hid ((validTag d ws hs && overB ws.length x) = true) := by unfold Hid; rw [lw]; exact h1
  have HV := Lib.hid (Bool.and_eq_true _ _ ▸ h1).1
  have HO := Lib.hid (Bool.and_eq_true _ _ ▸ h1).2
  clear h1
  refine (tagCode_ok d bw 0 nw cw us ws bh 0 nh ch hs b o m c x HV.out HO.out w1 sw1 sr1 HLW.out hnw HSUM.out sh1 HLH.out hnh sx1 HLX.out hm).mono ?_
  rintro e w2 ⟨rfl, b2⟩
  have B2 := below_step B1 b2
  rcases Bool.eq_false_or_eq_true (inB bd 1 20000) with h3 | h3
  rotate_left
  · have HF : Hid (runTagMk d ws hs x bd = ([], 0, false, 2)) := runTagMk_out HG.out h3
    have H3 := Lib.hid h3; clear h3 lw l0 l1 l2
    go_wp2_with fail
    refine (budgetOk_is bd false H3.out _).mono ?_
    rintro e w' ⟨rfl, rfl⟩
    go_wp2_with fail
    ((try simp only [Exit.inBlock, Exit.then]); refine bodyPost_ret (results_tmp4 rfl _ _ _) rfl ?_)
    exact ⟨_, ends4 (by rw [HF.out]) (by rw [HF.out]) (by rw [HF.out]), own_res0 (by rw [HF.out]), B2⟩
  have H3 := Lib.hid h3
  obtain ⟨f, rfl⟩ : ∃ f : Nat, bd = f := ⟨bd.toNat, by have := (inB_iff _ _ _).1 h3; omega⟩
  have hf : f ≤ 20000 := by have := (inB_iff _ _ _).1 h3; omega
  clear h3
  go_wp2_with fail
  refine (budgetOk_is f true H3.out _).mono ?_
  rintro e w' ⟨rfl, hw'⟩
  subst hw'
  have m0 := cell_step (by exact l0) b2
  have m1 := cell_step (by exact l1) b2
  have m2 := cell_step (by exact l2) b2
  have sw2 := sw1.below' b2; have sr2 := sr1.below b2; have sh2 := sh1.below' b2; have sx2 := sx1.below' b2
  clear l0 l1 l2
  rcases Bool.eq_false_or_eq_true (tagOk d ws hs) with h4 | h4
  rotate_left
  · have HF : Hid (runTagMk d ws hs x f = ([], 0, false, 5)) := runTagMk_full HG.out H3.out (by rw [h4]; rfl)
    have HT : Hid (tmk d ws hs = ([], 5)) := tmk_no h4
    clear h4 lw
    go_wp2_with fail
    refine (implTagMk_any d bw 0 nw cw us ws bh 0 nh ch hs w2 HV.out sw2 sr2 HLW.out hnw HSUM.out HAU.out sh2 HLH.out hnh).mono ?_
    rw [HT.out]
    rintro e w3 ⟨V, es, rfl, R, b3⟩
    have B3 := below_step B2 b3
    obtain ⟨A, cV, rfl⟩ := own_form R.acc.own
    clear R m0 m1 m2
    go_wp2_with fail
    ((try simp only [Exit.inBlock, Exit.then]); refine bodyPost_ret (results_tmp4 rfl _ _ _) rfl ?_)
    exact ⟨_, ends4 (by rw [HF.out]) (by rw [HF.out]) (by rw [HF.out]), own_res0 (by rw [HF.out]), B3⟩
  have HT : Hid (tmk d ws hs = (tagRules d ws hs, 0)) := tmk_yes h4
  have hmk : 2 * nw ≤ 9 ∧ validMks (tagRules d ws hs) = true := by
    unfold tagOk at h4; rw [lw, Bool.and_eq_true] at h4; exact ⟨of_decide_eq_true h4.1, h4.2⟩
  have hnw9 := hmk.1
  have HVM := Lib.hid hmk.2
  have H4 := Lib.hid h4
  clear h4 hmk
  go_wp2_with fail
  refine (implTagMk_any d bw 0 nw cw us ws bh 0 nh ch hs w2 HV.out sw2 sr2 HLW.out hnw HSUM.out HAU.out sh2 HLH.out hnh).mono ?_
  rw [HT.out]
  rintro e w3 ⟨V, es, rfl, R, b3⟩
  have B3 := below_step B2 b3
  have B13 := below_step b2 b3
  obtain ⟨rs, hrs⟩ : ∃ rs, tagRules d ws hs = rs := ⟨_, rfl⟩
  rw [hrs] at R HVM
  have HRS := Lib.hid hrs; clear hrs
  have hv60 := validMks_len HVM.out
  have HSM := Lib.hid (validMks_sum HVM.out).2
  obtain ⟨gV, cV, hVe, hcV, slV⟩ := R.addr (by show 0 < rs.length; omega)
  dsimp only at hVe hcV
  obtain ⟨nr, hnr⟩ : ∃ nr, rs.length = nr := ⟨_, rfl⟩
  rw [hnr] at hVe hcV hv60
  have HNR := Lib.hid hnr; clear hnr
  subst hVe
  have HRC := Lib.hid R.rcs
  have HRM : Hid (es.map (·.d) = rs) := R.map
  have HSV := Lib.hid slV
  clear R m0 m1 m2 slV
  have m0 := cell_step (by exact L0.out) B13
  have m1 := cell_step (by exact L1.out) B13
  have m2 := cell_step (by exact L2.out) B13
  have sw3 := sw2.below' b3; have sr3 := sr2.below b3; have sh3 := sh2.below' b3; have sx3 := sx2.below' b3
  go_wp2_with fail
  refine (wordOfTag_any d bw 0 nw cw us ws bh 0 nh ch hs b o m c x HV.out HO.out w3 hnw9 sw3 sr3 HLW.out HSUM.out sh3 HLH.out hnh sx3 HLX.out hm).mono ?_
  rintro e w4 ⟨he1, he2, b4⟩
  have B4 := below_step B3 b4
  by_cases h5 : m < 400
  rotate_left
  · have he := he2 (by omega)
    subst he
    have HF : Hid (runTagMk d ws hs x f = ([], 0, false, 5)) := runTagMk_full HG.out H3.out (by rw [HLX.out, decide_eq_false h5, Bool.and_false])
    clear he1 he2 lw m0 m1 m2
    go_wp2_with fail
    ((try simp only [Exit.inBlock, Exit.then]); refine bodyPost_ret (results_tmp4 rfl _ _ _) rfl ?_)
    exact ⟨_, ends4 (by rw [HF.out]) (by rw [HF.out]) (by rw [HF.out]), own_res0 (by rw [HF.out]), B4⟩
  obtain ⟨vn, he, ownn⟩ := he1 h5
  subst he
  have HA : Hid (runTagMk d ws hs x f = runT rs nw f 0 (2 * (nw : Int) :: x) []) := by
    have := runTagMk_run (d := d) (ws := ws) (hs := hs) (w := x) HG.out H3.out (by rw [H4.out, HLX.out, decide_eq_true h5]; rfl)
    unfold Hid; rw [this, HRS.out, lw]
  have HTW : Hid (tagW nw (2 * (nw : Int) :: x) = some x) := tagW_good (overB_all HO.out).1
  have B14 := below_step B13 b4
  have B34 := b4
  have sx4 := sx3.below' b4
  obtain ⟨An, cn, rfl⟩ := own_form ownn
  have ownn4 := own_base ownn B3.size
  clear he1 he2 lw m0 m1 m2 ownn sw3 sr3 sh3 sw2 sr2 sh2 sw1 sr1 sh1 sx1 sx2 sx3 b2 b3
  go_wp2_with fail
  refine (cloneA_any b o m c x _ sx4 HLX.out (by omega)).mono ?_
  rintro e w5 ⟨gl, dl, rfl, ownl, b5, hdl⟩
  have B5 := below_step B4 b5
  have B35 := below_step B34 b5
  have B15 := below_step B14 b5
  have ownl5 := own_base ownl B4.size
  have ownn5 := own_below' ownn4 b5
  have hm400 : m + 1 ≤ 400 := by omega
  clear ownl ownn4 sx4 b5 b4
  go_wp2_with fail
  go_loopw [13, 14, 15] (fun vn vl i wr => ∃ (k q mn ml : Nat) (y la : List Int), k + q = f ∧ i = .int .i64 k ∧ mn ≤ 400 ∧ ml ≤ 1000 ∧ wr.ownsRow w.heap.size 2 1 vn mn (y.map (.int .i64)) ∧ wr.ownsRow w.heap.size 2 1 vl ml (la.map (.int .i64)) ∧ Below w.heap.size w wr ∧ Below w1.heap.size w1 wr ∧ Below w3.heap.size w3 wr ∧ Hid (y.length = mn) ∧ Hid (la.length = ml) ∧ Hid (runTagMk d ws hs x f = runT rs nw q k y la)) (fun _ _ i _ => f - (intOf i).toNat)
  case atStart => exact ⟨0, f, 1 + m, m, 2 * (nw : Int) :: x, x, by omega, rfl, by omega, by omega, ownn5, ownl5, B5, B15, B35, by have := HLX.out; unfold Hid; simp; omega, HLX, by unfold Hid; rw [HA.out]; exact runT_first HTW.out⟩
  case round =>
    obtain ⟨k, q, mn, ml, y, la, hkq, rfl, hmn, hml, hon, hol, B, B1r, B3r, HY, HLA, HQ⟩ := hrel
    clear ownn5 ownl5 B5 B15 B35
    have cn := own_cap hon
    obtain ⟨An2, cn2, rfl⟩ := own_form hon
    have hcn := cn _ _ rfl
    clear cn
    obtain ⟨Al, cl, rfl⟩ := own_form hol
    have m0 := cell_step (by exact L0.out) B1r
    have m1 := cell_step (by exact L1.out) B1r
    have m2 := cell_step (by exact L2.out) B1r
    have han := arg_of_own hon
    obtain ⟨wo, rfl⟩ : ∃ wo, wo = wr := ⟨_, rfl⟩
    cases htw : tagW nw y
    case' none =>
      have HTW2 := Lib.hid htw
      have hlt := lastT_none (last := la) htw
      obtain ⟨la2, hla2⟩ : ∃ la2, lastT nw y la = la2 := ⟨_, rfl⟩
      have HLT := Lib.hid hla2
      rw [hla2] at hlt
      obtain ⟨ml2, hml2⟩ : ∃ ml2, ml2 = ml := ⟨_, rfl⟩
      clear htw hla2
      go_wp2_with fail
      refine (tagOfWord_no d _ nw cw _ rfl An2 mn cn2 y HTW2.out wo han (by omega) hcn hnw9).mono ?_
      rintro e w6 ⟨rfl, b6⟩
      have B6 := below_step B b6
      have B16 := below_step B1r b6
      have B36 := below_step B3r b6
      have hon6 := own_below' hon b6
      have hol6 := own_below' hol b6
      have HML2 : Hid (la2.length = ml) := by unfold Hid; rw [hlt]; exact HLA.out
      rw [← hlt] at hol6
      rw [← hml2] at hol6 HML2 ⊢
      have hml2' : ml2 ≤ 1000 := by omega
      obtain ⟨Al2, rfl⟩ : ∃ A, A = Al := ⟨_, rfl⟩
      obtain ⟨cl2, rfl⟩ : ∃ A, A = cl := ⟨_, rfl⟩
      clear hon hol han b6 B B1r B3r m0 m1 m2 hlt hml2
      go_wp2_with fail
    case' some z =>
      have HTW2 := Lib.hid htw
      have hlt := lastT_some (last := la) htw
      obtain ⟨la2, hla2⟩ : ∃ la2, lastT nw y la = la2 := ⟨_, rfl⟩
      have HLT := Lib.hid hla2
      rw [hla2] at hlt
      have hzl := tagW_len htw
      clear htw hla2
      go_wp2_with fail
      refine (tagOfWord_yes d _ nw cw _ rfl An2 mn cn2 y z HTW2.out wo han (by omega) hcn hnw9).mono ?_
      rintro e w6 ⟨vz, rfl, ownz, b6⟩
      have B6 := below_step B b6
      have B16 := below_step B1r b6
      have B36 := below_step B3r b6
      have hon6 := own_below' hon b6
      have hol6 := own_base ownz B.size
      have HML2 : Hid (la2.length = mn - 1) := by unfold Hid; rw [hlt]; have := HY.out; omega
      rw [← hlt] at hol6
      obtain ⟨ml2, hml2⟩ : ∃ ml2, ml2 = mn - 1 := ⟨_, rfl⟩
      rw [← hml2] at hol6 HML2
      have hml2' : ml2 ≤ 1000 := by omega
      obtain ⟨Al2, cl2, rfl⟩ := own_form hol6
      clear hon hol han b6 B B1r B3r m0 m1 m2 hlt hml2 ownz hzl
      go_wp2_with fail
    all_goals
      have hsV := HSV.out.below' B36
      have hrV := HRC.out.below B36
      have HNX := implNextMk_any gV 0 nr cV es rs _ mn y w6 hsV hrV HRM.out HNR.out (by omega) (by have := HSM.out; omega) w.heap.size hon6 (by omega)
      rcases next_cases rs y HVM.out (by have := HY.out; omega) with ⟨a, hru, hnx⟩ | ⟨i, a, r, hri, hru, hnx, hle⟩
      · have HF : Hid (runTagMk d ws hs x f = (la2, (k : Int), true, 0)) := by unfold Hid; rw [HQ.out, runT_none hru, HLT.out]
        rw [hnx] at HNX
        have HNX := Lib.hid HNX
        clear hru hnx
        refine HNX.out.mono ?_
        rintro e w7 ⟨v, rfl, own7, b7⟩
        obtain ⟨A7, d7, rfl⟩ := own_form own7
        have B7 := below_step B6 b7
        have hol7 := own_below' hol6 b7
        go_wp2_with fail
        ((try simp only [Exit.inBlock, Exit.then]); refine bodyPost_ret (results_tmp4 rfl _ _ _) rfl ?_)
        exact ⟨_, ends4 (by rw [HF.out]) (by rw [HF.out]) (by rw [HF.out]), own_res (by rw [HF.out]) HML2.out hol7, B7⟩
      obtain ⟨z7, hz7⟩ : ∃ z, z = putL y a r.f0.length r.f1 := ⟨_, rfl⟩
      rw [hnx] at HNX
      simp only at HNX
      rw [← hz7] at HNX hle
      obtain ⟨mz, hmz⟩ : ∃ q, q = z7.length := ⟨_, rfl⟩
      rw [← hmz] at HNX hle
      have HZ := Lib.hid hz7; have HMZ := Lib.hid hmz.symm; have HRI := Lib.hid hri; have HRU := Lib.hid hru
      have HNX := Lib.hid HNX
      have hi60 : i < nr := by have := (List.getElem?_eq_some_iff.1 hri).1; have := HNR.out; omega
      clear hz7 hmz hri hru hnx hsV hrV
      have hin : ¬ ((i : Int) < 0) := by omega
      cases q with
      | zero =>
        obtain rfl : k = f := by omega
        have HF : Hid (runTagMk d ws hs x k = (la2, (k : Int), false, 0)) := by unfold Hid; rw [HQ.out, runT_stop HRI.out HRU.out, HLT.out]
        refine HNX.out.mono ?_
        rintro e w7 ⟨v, rfl, own7, b7⟩
        obtain ⟨A7, d7, rfl⟩ := own_form own7
        have B7 := below_step B6 b7
        have hol7 := own_below' hol6 b7
        go_wp2_with fail
        ((try simp only [Exit.inBlock, Exit.then]); refine bodyPost_ret (results_tmp4 rfl _ _ _) rfl ?_)
        exact ⟨_, ends4 (by rw [HF.out]) (by rw [HF.out]; first | done | exact decide_eq_false (by omega)) (by rw [HF.out]), own_res (by rw [HF.out]) HML2.out hol7, B7⟩
      | succ q =>
      have hkb : k < f := by omega
      have hkn : ((k : Int) == (f : Int)) = false := by simp; omega
      by_cases hf4 : mz ≤ 400
      rotate_left
      · have HF : Hid (runTagMk d ws hs x f = ([], 0, false, 5)) := by unfold Hid; rw [HQ.out, runT_full HRI.out HRU.out (by rw [← HZ.out, HMZ.out]; omega)]
        refine HNX.out.mono ?_
        rintro e w7 ⟨v, rfl, own7, b7⟩
        obtain ⟨A7, d7, rfl⟩ := own_form own7
        have B7 := below_step B6 b7
        go_wp2_with fail
        ((try simp only [Exit.inBlock, Exit.then]); refine bodyPost_ret (results_tmp4 rfl _ _ _) rfl ?_)
        exact ⟨_, ends4 (by rw [HF.out]) (by rw [HF.out]) (by rw [HF.out]), own_res0 (by rw [HF.out]), B7⟩
      have HN : Hid (runTagMk d ws hs x f = runT rs nw q (k + 1) z7 la2) := by
        unfold Hid
        rw [HQ.out, runT_next HRI.out HRU.out (by rw [← HZ.out, HMZ.out]; exact hf4), ← HZ.out, HLT.out]
      refine HNX.out.mono ?_
      rintro e w7 ⟨v, rfl, own7, b7⟩
      have own8 := own_base own7 B6.size
      have B7 := below_step B6 b7
      have B17 := below_step B16 b7
      have B37 := below_step B36 b7
      have hol7 := own_below' hol6 b7
      obtain ⟨A7, d7, rfl⟩ := own_form own8
      clear own7 b7 B6 B16 B36 hon6 hol6
      go_wp2_with fail
      go_roundw
      case rel => exact ⟨k + 1, q, mz, ml2, z7, la2, by omega, by go_num, hf4, hml2', own8, hol7, B7, B17, B37, HMZ, HML2, HN⟩
      case measure => simp [intOf]; omega
end Go.Proofs.Ytcfkjigapnknnaa
