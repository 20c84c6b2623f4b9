/- The law FnExactRunTagByMarkov returns true for every input, and each argument reads afterwards as before: the proof, part 4. No conditions. -/
import Derived.Test.YtcfkjigapnknnaaRunTagByMarkovZc
/- Valid rewriting rules and Markov rules: the reference's and the program's tests. -/
namespace Go.Proofs.Ytcfkjigapnknnaa
open Go.RowKit
set_option linter.all false

theorem all_step {α : Type} {p : α → Bool} {xs : List α} {k : Nat} {x : α} (HR : ∀ j y, j < k → xs[j]? = some y → p y = true) (hx : xs[k]? = some x) (hp : p x = true) : ∀ j y, j < k + 1 → xs[j]? = some y → p y = true := by
  intro j y hj hy
  by_cases ej : j = k
  · subst ej; rw [hx] at hy; injection hy with hy; subst hy; exact hp
  · exact HR j y (by omega) hy
theorem allNo {α : Type} {p : α → Bool} {xs : List α} {k : Nat} {x : α} (hx : xs[k]? = some x) (h : p x = false) : xs.all p = false := by
  rw [Bool.eq_false_iff]; intro ha
  have := List.all_eq_true.1 ha x (List.mem_of_getElem? hx)
  rw [h] at this; cases this
theorem all_end {α : Type} {p : α → Bool} {xs : List α} {k : Nat} (HR : ∀ j y, j < k → xs[j]? = some y → p y = true) (hk : xs.length ≤ k) : xs.all p = true := by
  rw [List.all_eq_true]
  intro x hx
  obtain ⟨j, hj⟩ := List.getElem?_of_mem hx
  exact HR j x (by have := (List.getElem?_eq_some_iff.1 hj).1; omega) hj

set_option maxRecDepth 100000 in
set_option maxHeartbeats 1000000 in
theorem l10Is_is (b off n c : Nat) (es : List ERewrite) (xs : List DRewrite) (v : Bool) (hv : validRws xs = v) (w : World) (hs : Sl w b off (rows ERewrite.vs es)) (hr : RcsRewrite w es) (hd : es.map (·.d) = xs) (hl : xs.length = n) (hn : n ≤ 1048576) (ht : sumRewrite xs ≤ 1048576) :
    Calls Try.prog 59 #[.slice (some ⟨b, off, none⟩) n c] w fun e w' => e = .returned (.bool v) ∧ w = w' := by
  have HL := Lib.hid hl; have HD := Lib.hid hd; have HT := Lib.hid ht
  have HE : Hid (es.length = n) := by unfold Hid; rw [← hl, ← hd, List.length_map]
  have HV : Hid ((inB (n : Int) 1 60 && xs.all okRw) = v) := by unfold Hid; rw [← hv, ← hl]; rfl
  clear hl hd hv ht
  by_cases h1 : n < 1
  · have HF : Hid (false = v) := by have := HV.out; rw [(inB_false _ _ _).2 (by omega)] at this; exact this
    go_enter Try.func59, Try.ntmps59
    go_wp2_with fail
    go_ret
    exact ⟨ret_bool HF.out, rfl⟩
  by_cases h2 : 60 < n
  · have HF : Hid (false = v) := by have := HV.out; rw [(inB_false _ _ _).2 (by omega)] at this; exact this
    go_enter Try.func59, Try.ntmps59
    go_wp2_with fail
    go_ret
    exact ⟨ret_bool HF.out, rfl⟩
  have HA : Hid (xs.all okRw = v) := by have := HV.out; rw [(inB_iff _ _ _).2 (by omega), Bool.true_and] at this; exact this
  go_enter Try.func59, Try.ntmps59
  go_wp2_with fail
  go_loop [3] (fun i => ∃ k : Nat, k ≤ n ∧ i = .int .i64 k ∧ Hid (∀ j x, j < k → xs[j]? = some x → okRw x = true)) (fun i => n - (intOf i).toNat)
  case atStart => exact ⟨0, Nat.zero_le _, rfl, by intro j x hj; omega⟩
  case round =>
    obtain ⟨k, hk, rfl, HR⟩ := hrel
    by_cases hlt : k < n
    rotate_left
    · have HF : Hid (true = v) := by have := HA.out; rw [all_end HR.out (by have := HL.out; omega)] at this; exact this
      go_wp2_with fail
      go_ret
      exact ⟨ret_bool HF.out, rfl⟩
    obtain ⟨e, HX⟩ := hget HE hlt
    have HXD : Hid (xs[k]? = some e.d) := by unfold Hid; rw [← HD.out, List.getElem?_map, HX.out]; rfl
    have hwl : wlRewrite e.d ≤ 1048576 := Nat.le_trans (sumRewrite_at HXD.out) HT.out
    obtain ⟨⟨g0, eu0, s0⟩, ⟨g1, eu1, s1⟩, -⟩ := hr.at (List.mem_of_getElem? HX.out)
    have p0 : w.cell? ⟨b, off + k * 2, none⟩ = some e.u0 := Sl.rec (f := ERewrite.vs) (s := 2) (fun _ => rfl) hs HX.out (j := 0) rfl
    have p1 : w.cell? ⟨b, off + k * 2 + 1, none⟩ = some e.u1 := Sl.rec (f := ERewrite.vs) (s := 2) (fun _ => rfl) hs HX.out (j := 1) rfl
    rw [eu0] at p0
    rw [eu1] at p1
    clear eu0 eu1
    obtain ⟨⟨f0, f1⟩, u0, u1⟩ := e
    dsimp only at p0 p1 s0 s1 hwl HXD
    simp only [wlRewrite] at hwl
    obtain ⟨m0, hm0⟩ : ∃ q, q = f0.length := ⟨_, rfl⟩
    obtain ⟨m1, hm1⟩ : ∃ q, q = f1.length := ⟨_, rfl⟩
    rw [← hm0] at p0 hwl
    rw [← hm1] at p1 hwl
    have HM0 := Lib.hid hm0.symm
    have HM1 := Lib.hid hm1.symm
    clear hm0 hm1
    clear hs hr
    obtain ⟨v0, hv0⟩ : ∃ u, isWordB f0 = u := ⟨_, rfl⟩
    have HV0 := Lib.hid hv0; clear hv0
    obtain ⟨v1, hv1⟩ : ∃ u, isWordB f1 = u := ⟨_, rfl⟩
    have HV1 := Lib.hid hv1; clear hv1
    have hno : okRw ⟨f0, f1⟩ = false → Hid (false = v) := by
      intro h; have := HA.out; rw [allNo (p := okRw) HXD.out h] at this; exact this
    have HNO := Lib.hid hno; clear hno
    cases v0
    · have HF := HNO.out (by unfold okRw; rw [HV0.out]; simp)
      go_wp2_with fail
      refine (l03Is_is g0 0 m0 m0 f0 false HV0.out _ s0 HM0.out (by omega)).mono ?_
      rintro e w' ⟨rfl, rfl⟩
      go_wp2_with fail
      go_ret
      exact ⟨ret_bool HF.out, rfl⟩
    cases v1
    · have HF := HNO.out (by unfold okRw; rw [HV1.out]; simp)
      go_wp2_with fail
      refine (l03Is_is g0 0 m0 m0 f0 true HV0.out _ s0 HM0.out (by omega)).mono ?_
      rintro e w' ⟨rfl, rfl⟩
      go_wp2_with fail
      refine (l03Is_is g1 0 m1 m1 f1 false HV1.out _ s1 HM1.out (by omega)).mono ?_
      rintro e w' ⟨rfl, rfl⟩
      go_wp2_with fail
      go_ret
      exact ⟨ret_bool HF.out, rfl⟩
    by_cases hz : m0 = 0
    · subst hz
      have HF := HNO.out (by unfold okRw; rw [HM0.out]; simp)
      go_wp2_with fail
      refine (l03Is_is g0 0 0 0 f0 true HV0.out _ s0 HM0.out (by omega)).mono ?_
      rintro e w' ⟨rfl, rfl⟩
      go_wp2_with fail
      refine (l03Is_is g1 0 m1 m1 f1 true HV1.out _ s1 HM1.out (by omega)).mono ?_
      rintro e w' ⟨rfl, rfl⟩
      go_wp2_with fail
      go_ret
      exact ⟨ret_bool HF.out, rfl⟩
    have HOK : Hid (okRw ⟨f0, f1⟩ = true) := by unfold Hid; unfold okRw; rw [HV0.out, HV1.out, HM0.out, decide_eq_false hz]; rfl
    go_wp2_with fail
    refine (l03Is_is g0 0 m0 m0 f0 true HV0.out _ s0 HM0.out (by omega)).mono ?_
    rintro e w' ⟨rfl, rfl⟩
    go_wp2_with fail
    refine (l03Is_is g1 0 m1 m1 f1 true HV1.out _ s1 HM1.out (by omega)).mono ?_
    rintro e w' ⟨rfl, rfl⟩
    go_wp2_with fail
    go_round
    case rel => exact ⟨k + 1, by omega, by go_num, all_step HR.out HXD.out HOK.out⟩
    case measure => simp [intOf]; omega

set_option maxRecDepth 100000 in
set_option maxHeartbeats 1000000 in
theorem notRewrite_is (g0 g1 m0 m1 : Nat) (f0 f1 : List Int) (v : Bool) (hv : okRw ⟨f0, f1⟩ = v) (w : World) (s0 : Sl w g0 0 (f0.map (.int .i64))) (s1 : Sl w g1 0 (f1.map (.int .i64))) (h0 : f0.length = m0) (h1 : f1.length = m1) (hb : m0 + m1 ≤ 1048576) :
    Calls Try.prog 116 #[.agg #[.slice (some ⟨g0, 0, none⟩) m0 m0, .slice (some ⟨g1, 0, none⟩) m1 m1]] w fun e w' => e = .returned (.bool (!v)) ∧ Below w.heap.size w w' := by
  have HM0 := Lib.hid h0; have HM1 := Lib.hid h1; have HV := Lib.hid hv
  clear h0 h1 hv
  obtain ⟨w0, HW0, B0, x0, y0⟩ := al2 w (.cells #[.slice (some ⟨g0, 0, none⟩) m0 m0, .slice (some ⟨g1, 0, none⟩) m1 m1] 99) (.cells #[.slice (some ⟨g0, 0, none⟩) m0 m0, .slice (some ⟨g1, 0, none⟩) m1 m1] 25)
  have hsl : Sl w0 (w.heap.size + 1) 0 [.slice (some ⟨g0, 0, none⟩) m0 m0, .slice (some ⟨g1, 0, none⟩) m1 m1] := by
    refine ⟨heap_lt y0, fun j u hu => ?_⟩
    rw [cell_of_heap y0]; simpa using hu
  have htr : Wds w0 [.slice (some ⟨g0, 0, none⟩) m0 m0, .slice (some ⟨g1, 0, none⟩) m1 m1] [f0, f1] := by
    refine ⟨rfl, fun j v t h1 h2 => ?_⟩
    match j, h1, h2 with
    | 0, h1, h2 => simp only [List.getElem?_cons_zero, List.getElem?_cons_succ, Option.some.injEq] at h1 h2; subst h1; subst h2; exact ⟨g0, 0, m0, by rw [HM0.out], s0.below' B0, by have := HM0.out; omega⟩
    | 1, h1, h2 => simp only [List.getElem?_cons_zero, List.getElem?_cons_succ, Option.some.injEq] at h1 h2; subst h1; subst h2; exact ⟨g1, 0, m1, by rw [HM1.out], s1.below' B0, by have := HM1.out; omega⟩
  have k0 : w0.cell? ⟨w.heap.size, 0, none⟩ = some (.slice (some ⟨g0, 0, none⟩) m0 m0) := by rw [cell_of_heap x0]; rfl
  have k1 : w0.cell? ⟨w.heap.size, 1, none⟩ = some (.slice (some ⟨g1, 0, none⟩) m1 m1) := by rw [cell_of_heap x0]; rfl
  clear x0 y0 s0 s1
  obtain ⟨vw, hvw⟩ : ∃ u, [f0, f1].all isWordB = u := ⟨_, rfl⟩
  have HVW := Lib.hid hvw; clear hvw
  have HALL : Hid ((isWordB f0 && isWordB f1) = vw) := by unfold Hid; have := HVW.out; simpa using this
  cases vw
  · have HF : Hid (true = !v) := by unfold Hid; rw [← HV.out]; unfold okRw; rw [← Bool.and_assoc, HALL.out]; rfl
    go_enter Try.func116, Try.ntmps116
    go_wp2_with fail
    rw [← HW0.out]
    refine (areWords_is (w.heap.size + 1) 0 2 2 _ [f0, f1] false HVW.out _ hsl htr rfl (by omega)).mono ?_
    rintro e w' ⟨rfl, rfl⟩
    go_wp2_with fail
    go_ret
    exact ⟨ret_bool HF.out, B0⟩
  by_cases hz : m0 = 0
  · subst hz
    have HF : Hid (true = !v) := by unfold Hid; rw [← HV.out]; unfold okRw; rw [HM0.out]; simp
    go_enter Try.func116, Try.ntmps116
    go_wp2_with fail
    rw [← HW0.out]
    refine (areWords_is (w.heap.size + 1) 0 2 2 _ [f0, f1] true HVW.out _ hsl htr rfl (by omega)).mono ?_
    rintro e w' ⟨rfl, rfl⟩
    go_wp2_with fail
    go_ret
    exact ⟨ret_bool HF.out, B0⟩
  have HF : Hid (false = !v) := by unfold Hid; rw [← HV.out]; unfold okRw; rw [← Bool.and_assoc, HALL.out, HM0.out, decide_eq_false hz]; rfl
  go_enter Try.func116, Try.ntmps116
  go_wp2_with fail
  rw [← HW0.out]
  refine (areWords_is (w.heap.size + 1) 0 2 2 _ [f0, f1] true HVW.out _ hsl htr rfl (by omega)).mono ?_
  rintro e w' ⟨rfl, rfl⟩
  go_wp2_with fail
  go_ret
  exact ⟨ret_bool (by first | exact HF.out | (rw [← HF.out]; simp; omega)), B0⟩

set_option maxRecDepth 100000 in
set_option maxHeartbeats 1000000 in
theorem indexNotRewrite_any (b off n c : Nat) (es : List ERewrite) (xs : List DRewrite) (w : World) (hs : Sl w b off (rows ERewrite.vs es)) (hr : RcsRewrite w es) (hd : es.map (·.d) = xs) (hl : xs.length = n) (hn : n ≤ 1048576) (ht : sumRewrite xs ≤ 1048576) :
    Calls Try.prog 153 #[.slice (some ⟨b, off, none⟩) n c, .func (.func 116) #[] #[]] w fun e w' => (∃ z : Int, e = .returned (.int .i64 z) ∧ (decide (0 ≤ z) = !(xs.all okRw))) ∧ Below w.heap.size w w' := by
  have HL := Lib.hid hl; have HD := Lib.hid hd; have HT := Lib.hid ht
  have HE : Hid (es.length = n) := by unfold Hid; rw [← hl, ← hd, List.length_map]
  clear hl hd ht
  go_enter Try.func153, Try.ntmps153
  go_wp2_with fail
  go_loopw [8] (fun i wr => ∃ k : Nat, k ≤ n ∧ i = .int .i64 k ∧ Below w.heap.size w wr ∧ Hid (∀ j x, j < k → xs[j]? = some x → okRw x = true)) (fun i _ => n - (intOf i).toNat)
  case atStart => exact ⟨0, Nat.zero_le _, rfl, Below.refl _ _, by intro j x hj; omega⟩
  case round =>
    obtain ⟨k, hk, rfl, hB, HR⟩ := hrel
    by_cases hlt : k < n
    · obtain ⟨e, HX⟩ := hget HE hlt
      have HXD : Hid (xs[k]? = some e.d) := by unfold Hid; rw [← HD.out, List.getElem?_map, HX.out]; rfl
      have hwl : wlRewrite e.d ≤ 1048576 := Nat.le_trans (sumRewrite_at HXD.out) HT.out
      obtain ⟨⟨g0, eu0, s0⟩, ⟨g1, eu1, s1⟩, -⟩ := (hr.below hB).at (List.mem_of_getElem? HX.out)
      have p0 : wr.cell? ⟨b, off + k * 2, none⟩ = some e.u0 := Sl.rec (f := ERewrite.vs) (s := 2) (fun _ => rfl) (hs.below' hB) HX.out (j := 0) rfl
      have p1 : wr.cell? ⟨b, off + k * 2 + 1, none⟩ = some e.u1 := Sl.rec (f := ERewrite.vs) (s := 2) (fun _ => rfl) (hs.below' hB) HX.out (j := 1) rfl
      rw [eu0] at p0
      rw [eu1] at p1
      clear eu0 eu1
      obtain ⟨⟨f0, f1⟩, u0, u1⟩ := e
      dsimp only at p0 p1 s0 s1 hwl HXD
      simp only [wlRewrite] at hwl
      obtain ⟨m0, hm0⟩ : ∃ q, q = f0.length := ⟨_, rfl⟩
      obtain ⟨m1, hm1⟩ : ∃ q, q = f1.length := ⟨_, rfl⟩
      rw [← hm0] at p0 hwl
      rw [← hm1] at p1 hwl
      have HM0 := Lib.hid hm0.symm
      have HM1 := Lib.hid hm1.symm
      clear hm0 hm1
      clear hs hr
      rcases Bool.eq_false_or_eq_true (okRw ⟨f0, f1⟩) with hv | hv
      · have HV := Lib.hid hv; clear hv
        go_wp2_with fail
        refine (notRewrite_is g0 g1 m0 m1 f0 f1 true HV.out _ s0 s1 HM0.out HM1.out (by omega)).mono ?_
        rintro e w1 ⟨rfl, b1⟩
        have hB1 := below_step hB b1
        clear b1 p0 p1 s0 s1
        go_wp2
        go_roundw
        case rel => exact ⟨k + 1, by omega, by go_num, hB1, all_step HR.out HXD.out HV.out⟩
        case measure => simp [intOf]; omega
      · have HV := Lib.hid hv; clear hv
        go_wp2_with fail
        refine (notRewrite_is g0 g1 m0 m1 f0 f1 false HV.out _ s0 s1 HM0.out HM1.out (by omega)).mono ?_
        rintro e w1 ⟨rfl, b1⟩
        have hB1 := below_step hB b1
        clear b1 p0 p1 s0 s1
        go_wp2
        go_ret
        refine ⟨⟨_, rfl, ?_⟩, hB1⟩
        rw [allNo (p := okRw) HXD.out HV.out]; simp
    · go_wp2
      go_ret
      refine ⟨⟨_, rfl, ?_⟩, hB⟩
      rw [all_end HR.out (by have := HL.out; omega)]; rfl

set_option maxRecDepth 100000 in
set_option maxHeartbeats 1000000 in
theorem implValidRewrites_is (b off n c : Nat) (es : List ERewrite) (xs : List DRewrite) (v : Bool) (hv : validRws xs = v) (w : World) (hs : Sl w b off (rows ERewrite.vs es)) (hr : RcsRewrite w es) (hd : es.map (·.d) = xs) (hl : xs.length = n) (hn : n ≤ 1048576) (ht : sumRewrite xs ≤ 1048576) :
    Calls Try.prog 62 #[.slice (some ⟨b, off, none⟩) n c] w fun e w' => e = .returned (.bool v) ∧ Below w.heap.size w w' := by
  have HV : Hid ((inB (n : Int) 1 60 && xs.all okRw) = v) := by unfold Hid; rw [← hv, ← hl]; rfl
  clear hv
  obtain ⟨vb, hvb⟩ : ∃ u, inB (n : Int) 1 60 = u := ⟨_, rfl⟩
  have HVB := Lib.hid hvb; clear hvb
  have hsz : ∀ W, Calls Try.prog 114 #[.slice (some ⟨b, off, none⟩) n c] W fun e w' => e = .returned (.int .i64 n) ∧ W = w' := by
    intro W
    go_enter Try.func114, Try.ntmps114
    go_wp2
    go_ret
    exact ⟨rfl, rfl⟩
  have HSZ := Lib.hid hsz; clear hsz
  obtain ⟨va, hva⟩ : ∃ u, xs.all okRw = u := ⟨_, rfl⟩
  have hcon : Calls Try.prog 115 #[.slice (some ⟨b, off, none⟩) n c, .func (.func 116) #[] #[]] w fun e w' => e = .returned (.bool (!va)) ∧ Below w.heap.size w w' := by
    go_enter Try.func115, Try.ntmps115
    go_wp2_with fail
    refine (indexNotRewrite_any b off n c es xs w hs hr hd hl hn ht).mono ?_
    rintro e w1 ⟨⟨z, rfl, hz⟩, b1⟩
    rw [hva] at hz
    go_wp2_with fail
    go_ret
    exact ⟨ret_bool (by first | exact hz | simpa using hz), b1⟩
  have HVA := Lib.hid hva
  have HCON := Lib.hid hcon
  clear hva hcon hs hr hd hl ht
  cases vb
  · have HF : Hid (false = v) := by have := HV.out; rw [HVB.out] at this; exact this
    go_enter Try.func62, Try.ntmps62
    go_wp2_with fail
    refine (HSZ.out _).mono ?_
    rintro e w' ⟨rfl, rfl⟩
    go_wp2_with fail
    refine (within_is n 1 60 false HVB.out _).mono ?_
    rintro e w' ⟨rfl, rfl⟩
    go_wp2_with fail
    go_ret
    exact ⟨ret_bool HF.out, Below.refl _ _⟩
  · have HF : Hid (va = v) := by have := HV.out; rw [HVB.out, HVA.out] at this; exact this
    go_enter Try.func62, Try.ntmps62
    go_wp2_with fail
    refine (HSZ.out _).mono ?_
    rintro e w' ⟨rfl, rfl⟩
    go_wp2_with fail
    refine (within_is n 1 60 true HVB.out _).mono ?_
    rintro e w' ⟨rfl, rfl⟩
    go_wp2_with fail
    refine HCON.out.mono ?_
    rintro e w1 ⟨rfl, b1⟩
    go_wp2_with fail
    go_ret
    exact ⟨ret_bool (by rw [← HF.out]; first | done | simp), b1⟩

set_option maxRecDepth 100000 in
set_option maxHeartbeats 1000000 in
theorem l10Markov_is (b off n c : Nat) (es : List EMarkovRule) (xs : List DMarkovRule) (v : Bool) (hv : validMks xs = v) (w : World) (hs : Sl w b off (rows EMarkovRule.vs es)) (hr : RcsMarkovRule w es) (hd : es.map (·.d) = xs) (hl : xs.length = n) (hn : n ≤ 1048576) (ht : sumMarkovRule xs ≤ 1048576) :
    Calls Try.prog 125 #[.slice (some ⟨b, off, none⟩) n c] w fun e w' => e = .returned (.bool v) ∧ w = w' := by
  have HL := Lib.hid hl; have HD := Lib.hid hd; have HT := Lib.hid ht
  have HE : Hid (es.length = n) := by unfold Hid; rw [← hl, ← hd, List.length_map]
  have HV : Hid ((inB (n : Int) 1 60 && xs.all okMk) = v) := by unfold Hid; rw [← hv, ← hl]; rfl
  clear hl hd hv ht
  by_cases h1 : n < 1
  · have HF : Hid (false = v) := by have := HV.out; rw [(inB_false _ _ _).2 (by omega)] at this; exact this
    go_enter Try.func125, Try.ntmps125
    go_wp2_with fail
    go_ret
    exact ⟨ret_bool HF.out, rfl⟩
  by_cases h2 : 60 < n
  · have HF : Hid (false = v) := by have := HV.out; rw [(inB_false _ _ _).2 (by omega)] at this; exact this
    go_enter Try.func125, Try.ntmps125
    go_wp2_with fail
    go_ret
    exact ⟨ret_bool HF.out, rfl⟩
  have HA : Hid (xs.all okMk = v) := by have := HV.out; rw [(inB_iff _ _ _).2 (by omega), Bool.true_and] at this; exact this
  go_enter Try.func125, Try.ntmps125
  go_wp2_with fail
  go_loop [3] (fun i => ∃ k : Nat, k ≤ n ∧ i = .int .i64 k ∧ Hid (∀ j x, j < k → xs[j]? = some x → okMk x = true)) (fun i => n - (intOf i).toNat)
  case atStart => exact ⟨0, Nat.zero_le _, rfl, by intro j x hj; omega⟩
  case round =>
    obtain ⟨k, hk, rfl, HR⟩ := hrel
    by_cases hlt : k < n
    rotate_left
    · have HF : Hid (true = v) := by have := HA.out; rw [all_end HR.out (by have := HL.out; omega)] at this; exact this
      go_wp2_with fail
      go_ret
      exact ⟨ret_bool HF.out, rfl⟩
    obtain ⟨e, HX⟩ := hget HE hlt
    have HXD : Hid (xs[k]? = some e.d) := by unfold Hid; rw [← HD.out, List.getElem?_map, HX.out]; rfl
    have hwl : wlMarkovRule e.d ≤ 1048576 := Nat.le_trans (sumMarkovRule_at HXD.out) HT.out
    obtain ⟨⟨g0, cp0, eu0, hcp0, s0⟩, ⟨g1, cp1, eu1, hcp1, s1⟩, -⟩ := hr.at (List.mem_of_getElem? HX.out)
    have p0 : w.cell? ⟨b, off + k * 3, none⟩ = some e.u0 := Sl.rec (f := EMarkovRule.vs) (s := 3) (fun _ => rfl) hs HX.out (j := 0) rfl
    have p1 : w.cell? ⟨b, off + k * 3 + 1, none⟩ = some e.u1 := Sl.rec (f := EMarkovRule.vs) (s := 3) (fun _ => rfl) hs HX.out (j := 1) rfl
    have p2 : w.cell? ⟨b, off + k * 3 + 2, none⟩ = some (.bool e.d.f2) := Sl.rec (f := EMarkovRule.vs) (s := 3) (fun _ => rfl) hs HX.out (j := 2) rfl
    rw [eu0] at p0
    rw [eu1] at p1
    clear eu0 eu1
    obtain ⟨⟨f0, f1, f2⟩, u0, u1⟩ := e
    dsimp only at p0 p1 p2 s0 s1 hwl HXD hcp0 hcp1
    simp only [wlMarkovRule] at hwl
    obtain ⟨m0, hm0⟩ : ∃ q, q = f0.length := ⟨_, rfl⟩
    obtain ⟨m1, hm1⟩ : ∃ q, q = f1.length := ⟨_, rfl⟩
    rw [← hm0] at p0 hwl hcp0
    rw [← hm1] at p1 hwl hcp1
    have HM0 := Lib.hid hm0.symm
    have HM1 := Lib.hid hm1.symm
    clear hm0 hm1
    clear hs hr
    obtain ⟨v0, hv0⟩ : ∃ u, isWordB f0 = u := ⟨_, rfl⟩
    have HV0 := Lib.hid hv0; clear hv0
    obtain ⟨v1, hv1⟩ : ∃ u, isWordB f1 = u := ⟨_, rfl⟩
    have HV1 := Lib.hid hv1; clear hv1
    have hno : okMk ⟨f0, f1, f2⟩ = false → Hid (false = v) := by
      intro h; have := HA.out; rw [allNo (p := okMk) HXD.out h] at this; exact this
    have HNO := Lib.hid hno; clear hno
    cases v0
    · have HF := HNO.out (by unfold okMk; rw [HV0.out]; simp)
      go_wp2_with fail
      refine (l03Is_is g0 0 m0 cp0 f0 false HV0.out _ s0 HM0.out (by omega)).mono ?_
      rintro e w' ⟨rfl, rfl⟩
      go_wp2_with fail
      go_ret
      exact ⟨ret_bool HF.out, rfl⟩
    cases v1
    · have HF := HNO.out (by unfold okMk; rw [HV1.out]; simp)
      go_wp2_with fail
      refine (l03Is_is g0 0 m0 cp0 f0 true HV0.out _ s0 HM0.out (by omega)).mono ?_
      rintro e w' ⟨rfl, rfl⟩
      go_wp2_with fail
      refine (l03Is_is g1 0 m1 cp1 f1 false HV1.out _ s1 HM1.out (by omega)).mono ?_
      rintro e w' ⟨rfl, rfl⟩
      go_wp2_with fail
      go_ret
      exact ⟨ret_bool HF.out, rfl⟩
    have HOK : Hid (okMk ⟨f0, f1, f2⟩ = true) := by unfold Hid; unfold okMk; rw [HV0.out, HV1.out]; rfl
    go_wp2_with fail
    refine (l03Is_is g0 0 m0 cp0 f0 true HV0.out _ s0 HM0.out (by omega)).mono ?_
    rintro e w' ⟨rfl, rfl⟩
    go_wp2_with fail
    refine (l03Is_is g1 0 m1 cp1 f1 true HV1.out _ s1 HM1.out (by omega)).mono ?_
    rintro e w' ⟨rfl, rfl⟩
    go_wp2_with fail
    go_round
    case rel => exact ⟨k + 1, by omega, by go_num, all_step HR.out HXD.out HOK.out⟩
    case measure => simp [intOf]; omega

set_option maxRecDepth 100000 in
set_option maxHeartbeats 1000000 in
theorem notMarkovRule_is (g0 g1 m0 m1 cp0 cp1 : Nat) (f0 f1 : List Int) (f2 : Bool) (v : Bool) (hv : okMk ⟨f0, f1, f2⟩ = v) (w : World) (s0 : Sl w g0 0 (f0.map (.int .i64))) (s1 : Sl w g1 0 (f1.map (.int .i64))) (h0 : f0.length = m0) (h1 : f1.length = m1) (hb : m0 + m1 ≤ 1048576) :
    Calls Try.prog 161 #[.agg #[.slice (some ⟨g0, 0, none⟩) m0 cp0, .slice (some ⟨g1, 0, none⟩) m1 cp1, .bool f2]] w fun e w' => e = .returned (.bool (!v)) ∧ Below w.heap.size w w' := by
  have HM0 := Lib.hid h0; have HM1 := Lib.hid h1; have HV := Lib.hid hv
  clear h0 h1 hv
  obtain ⟨w0, HW0, B0, x0, y0⟩ := al2 w (.cells #[.slice (some ⟨g0, 0, none⟩) m0 cp0, .slice (some ⟨g1, 0, none⟩) m1 cp1, .bool f2] 117) (.cells #[.slice (some ⟨g0, 0, none⟩) m0 cp0, .slice (some ⟨g1, 0, none⟩) m1 cp1] 25)
  have hsl : Sl w0 (w.heap.size + 1) 0 [.slice (some ⟨g0, 0, none⟩) m0 cp0, .slice (some ⟨g1, 0, none⟩) m1 cp1] := by
    refine ⟨heap_lt y0, fun j u hu => ?_⟩
    rw [cell_of_heap y0]; simpa using hu
  have htr : Wds w0 [.slice (some ⟨g0, 0, none⟩) m0 cp0, .slice (some ⟨g1, 0, none⟩) m1 cp1] [f0, f1] := by
    refine ⟨rfl, fun j v t h1 h2 => ?_⟩
    match j, h1, h2 with
    | 0, h1, h2 => simp only [List.getElem?_cons_zero, List.getElem?_cons_succ, Option.some.injEq] at h1 h2; subst h1; subst h2; exact ⟨g0, 0, cp0, by rw [HM0.out], s0.below' B0, by have := HM0.out; omega⟩
    | 1, h1, h2 => simp only [List.getElem?_cons_zero, List.getElem?_cons_succ, Option.some.injEq] at h1 h2; subst h1; subst h2; exact ⟨g1, 0, cp1, by rw [HM1.out], s1.below' B0, by have := HM1.out; omega⟩
  have k0 : w0.cell? ⟨w.heap.size, 0, none⟩ = some (.slice (some ⟨g0, 0, none⟩) m0 cp0) := by rw [cell_of_heap x0]; rfl
  have k1 : w0.cell? ⟨w.heap.size, 1, none⟩ = some (.slice (some ⟨g1, 0, none⟩) m1 cp1) := by rw [cell_of_heap x0]; rfl
  clear x0 y0 s0 s1
  obtain ⟨vw, hvw⟩ : ∃ u, [f0, f1].all isWordB = u := ⟨_, rfl⟩
  have HVW := Lib.hid hvw; clear hvw
  have HALL : Hid ((isWordB f0 && isWordB f1) = vw) := by unfold Hid; have := HVW.out; simpa using this
  cases vw
  · have HF : Hid (true = !v) := by unfold Hid; rw [← HV.out]; unfold okMk; rw [HALL.out]; rfl
    go_enter Try.func161, Try.ntmps161
    go_wp2_with fail
    rw [← HW0.out]
    refine (areWords_is (w.heap.size + 1) 0 2 2 _ [f0, f1] false HVW.out _ hsl htr rfl (by omega)).mono ?_
    rintro e w' ⟨rfl, rfl⟩
    go_wp2_with fail
    go_ret
    exact ⟨ret_bool HF.out, B0⟩
  have HF : Hid (false = !v) := by unfold Hid; rw [← HV.out]; unfold okMk; rw [HALL.out]; rfl
  go_enter Try.func161, Try.ntmps161
  go_wp2_with fail
  rw [← HW0.out]
  refine (areWords_is (w.heap.size + 1) 0 2 2 _ [f0, f1] true HVW.out _ hsl htr rfl (by omega)).mono ?_
  rintro e w' ⟨rfl, rfl⟩
  go_wp2_with fail
  go_ret
  exact ⟨ret_bool (by first | exact HF.out | (rw [← HF.out]; rfl)), B0⟩

set_option maxRecDepth 100000 in
set_option maxHeartbeats 1000000 in
theorem indexNotMarkovRule_any (b off n c : Nat) (es : List EMarkovRule) (xs : List DMarkovRule) (w : World) (hs : Sl w b off (rows EMarkovRule.vs es)) (hr : RcsMarkovRule w es) (hd : es.map (·.d) = xs) (hl : xs.length = n) (hn : n ≤ 1048576) (ht : sumMarkovRule xs ≤ 1048576) :
    Calls Try.prog 178 #[.slice (some ⟨b, off, none⟩) n c, .func (.func 161) #[] #[]] w fun e w' => (∃ z : Int, e = .returned (.int .i64 z) ∧ (decide (0 ≤ z) = !(xs.all okMk))) ∧ Below w.heap.size w w' := by
  have HL := Lib.hid hl; have HD := Lib.hid hd; have HT := Lib.hid ht
  have HE : Hid (es.length = n) := by unfold Hid; rw [← hl, ← hd, List.length_map]
  clear hl hd ht
  go_enter Try.func178, Try.ntmps178
  go_wp2_with fail
  go_loopw [8] (fun i wr => ∃ k : Nat, k ≤ n ∧ i = .int .i64 k ∧ Below w.heap.size w wr ∧ Hid (∀ j x, j < k → xs[j]? = some x → okMk x = true)) (fun i _ => n - (intOf i).toNat)
  case atStart => exact ⟨0, Nat.zero_le _, rfl, Below.refl _ _, by intro j x hj; omega⟩
  case round =>
    obtain ⟨k, hk, rfl, hB, HR⟩ := hrel
    by_cases hlt : k < n
    · obtain ⟨e, HX⟩ := hget HE hlt
      have HXD : Hid (xs[k]? = some e.d) := by unfold Hid; rw [← HD.out, List.getElem?_map, HX.out]; rfl
      have hwl : wlMarkovRule e.d ≤ 1048576 := Nat.le_trans (sumMarkovRule_at HXD.out) HT.out
      obtain ⟨⟨g0, cp0, eu0, hcp0, s0⟩, ⟨g1, cp1, eu1, hcp1, s1⟩, -⟩ := (hr.below hB).at (List.mem_of_getElem? HX.out)
      have p0 : wr.cell? ⟨b, off + k * 3, none⟩ = some e.u0 := Sl.rec (f := EMarkovRule.vs) (s := 3) (fun _ => rfl) (hs.below' hB) HX.out (j := 0) rfl
      have p1 : wr.cell? ⟨b, off + k * 3 + 1, none⟩ = some e.u1 := Sl.rec (f := EMarkovRule.vs) (s := 3) (fun _ => rfl) (hs.below' hB) HX.out (j := 1) rfl
      have p2 : wr.cell? ⟨b, off + k * 3 + 2, none⟩ = some (.bool e.d.f2) := Sl.rec (f := EMarkovRule.vs) (s := 3) (fun _ => rfl) (hs.below' hB) HX.out (j := 2) rfl
      rw [eu0] at p0
      rw [eu1] at p1
      clear eu0 eu1
      obtain ⟨⟨f0, f1, f2⟩, u0, u1⟩ := e
      dsimp only at p0 p1 p2 s0 s1 hwl HXD hcp0 hcp1
      simp only [wlMarkovRule] at hwl
      obtain ⟨m0, hm0⟩ : ∃ q, q = f0.length := ⟨_, rfl⟩
      obtain ⟨m1, hm1⟩ : ∃ q, q = f1.length := ⟨_, rfl⟩
      rw [← hm0] at p0 hwl hcp0
      rw [← hm1] at p1 hwl hcp1
      have HM0 := Lib.hid hm0.symm
      have HM1 := Lib.hid hm1.symm
      clear hm0 hm1
      clear hs hr
      rcases Bool.eq_false_or_eq_true (okMk ⟨f0, f1, f2⟩) with hv | hv
      · have HV := Lib.hid hv; clear hv
        go_wp2_with fail
        refine (notMarkovRule_is g0 g1 m0 m1 cp0 cp1 f0 f1 f2 true HV.out _ s0 s1 HM0.out HM1.out (by omega)).mono ?_
        rintro e w1 ⟨rfl, b1⟩
        have hB1 := below_step hB b1
        clear b1 p0 p1 p2 s0 s1
        go_wp2
        go_roundw
        case rel => exact ⟨k + 1, by omega, by go_num, hB1, all_step HR.out HXD.out HV.out⟩
        case measure => simp [intOf]; omega
      · have HV := Lib.hid hv; clear hv
        go_wp2_with fail
        refine (notMarkovRule_is g0 g1 m0 m1 cp0 cp1 f0 f1 f2 false HV.out _ s0 s1 HM0.out HM1.out (by omega)).mono ?_
        rintro e w1 ⟨rfl, b1⟩
        have hB1 := below_step hB b1
        clear b1 p0 p1 p2 s0 s1
        go_wp2
        go_ret
        refine ⟨⟨_, rfl, ?_⟩, hB1⟩
        rw [allNo (p := okMk) HXD.out HV.out]; simp
    · go_wp2
      go_ret
      refine ⟨⟨_, rfl, ?_⟩, hB⟩
      rw [all_end HR.out (by have := HL.out; omega)]; rfl

set_option maxRecDepth 100000 in
set_option maxHeartbeats 1000000 in
theorem implValidMarkov_is (b off n c : Nat) (es : List EMarkovRule) (xs : List DMarkovRule) (v : Bool) (hv : validMks xs = v) (w : World) (hs : Sl w b off (rows EMarkovRule.vs es)) (hr : RcsMarkovRule w es) (hd : es.map (·.d) = xs) (hl : xs.length = n) (hn : n ≤ 1048576) (ht : sumMarkovRule xs ≤ 1048576) :
    Calls Try.prog 134 #[.slice (some ⟨b, off, none⟩) n c] w fun e w' => e = .returned (.bool v) ∧ Below w.heap.size w w' := by
  have HV : Hid ((inB (n : Int) 1 60 && xs.all okMk) = v) := by unfold Hid; rw [← hv, ← hl]; rfl
  clear hv
  obtain ⟨vb, hvb⟩ : ∃ u, inB (n : Int) 1 60 = u := ⟨_, rfl⟩
  have HVB := Lib.hid hvb; clear hvb
  have hsz : ∀ W, Calls Try.prog 159 #[.slice (some ⟨b, off, none⟩) n c] W fun e w' => e = .returned (.int .i64 n) ∧ W = w' := by
    intro W
    go_enter Try.func159, Try.ntmps159
    go_wp2
    go_ret
    exact ⟨rfl, rfl⟩
  have HSZ := Lib.hid hsz; clear hsz
  obtain ⟨va, hva⟩ : ∃ u, xs.all okMk = u := ⟨_, rfl⟩
  have hcon : Calls Try.prog 160 #[.slice (some ⟨b, off, none⟩) n c, .func (.func 161) #[] #[]] w fun e w' => e = .returned (.bool (!va)) ∧ Below w.heap.size w w' := by
    go_enter Try.func160, Try.ntmps160
    go_wp2_with fail
    refine (indexNotMarkovRule_any b off n c es xs w hs hr hd hl hn ht).mono ?_
    rintro e w1 ⟨⟨z, rfl, hz⟩, b1⟩
    rw [hva] at hz
    go_wp2_with fail
    go_ret
    exact ⟨ret_bool (by first | exact hz | simpa using hz), b1⟩
  have HVA := Lib.hid hva
  have HCON := Lib.hid hcon
  clear hva hcon hs hr hd hl ht
  cases vb
  · have HF : Hid (false = v) := by have := HV.out; rw [HVB.out] at this; exact this
    go_enter Try.func134, Try.ntmps134
    go_wp2_with fail
    refine (HSZ.out _).mono ?_
    rintro e w' ⟨rfl, rfl⟩
    go_wp2_with fail
    refine (within_is n 1 60 false HVB.out _).mono ?_
    rintro e w' ⟨rfl, rfl⟩
    go_wp2_with fail
    go_ret
    exact ⟨ret_bool HF.out, Below.refl _ _⟩
  · have HF : Hid (va = v) := by have := HV.out; rw [HVB.out, HVA.out] at this; exact this
    go_enter Try.func134, Try.ntmps134
    go_wp2_with fail
    refine (HSZ.out _).mono ?_
    rintro e w' ⟨rfl, rfl⟩
    go_wp2_with fail
    refine (within_is n 1 60 true HVB.out _).mono ?_
    rintro e w' ⟨rfl, rfl⟩
    go_wp2_with fail
    refine HCON.out.mono ?_
    rintro e w1 ⟨rfl, b1⟩
    go_wp2_with fail
    go_ret
    exact ⟨ret_bool (by rw [← HF.out]; first | done | simp), b1⟩
end Go.Proofs.Ytcfkjigapnknnaa

/- What TagToMarkov gives: plain lemmas. -/
namespace Go.Proofs.Ytcfkjigapnknnaa
set_option linter.all false

def rulesA (n : Nat) : List DMarkovRule := (ltrs n).flatMap fun i => (ltrs n).map fun k => ⟨[(n : Int) + i, k], [k, (n : Int) + i], false⟩
def rulesB (n : Nat) (ws : List (List Int)) : List DMarkovRule := ws.mapIdx fun i w => ⟨[(n : Int) + (i : Int)], w, false⟩
def rulesC (n l : Nat) (hs : List Int) : List DMarkovRule := (ltrs n).flatMap fun i => if hs.contains i then [] else (wordsN n l).map fun x => ⟨[2 * (n : Int), i] ++ x, [2 * (n : Int), (n : Int) + i], false⟩
def tagRules (d : Int) (ws : List (List Int)) (hs : List Int) : List DMarkovRule := rulesA ws.length ++ rulesB ws.length ws ++ rulesC ws.length (d - 1).toNat hs
/-- The reference's rules so far against those that are meant: the same, or both too many. -/
def MkRel (acc full : List DMarkovRule) : Prop := acc = full ∨ (60 < acc.length ∧ 60 < full.length)
theorem MkRel.app {acc full : List DMarkovRule} (h : MkRel acc full) (l : List DMarkovRule) : MkRel (acc ++ l) (full ++ l) := by
  rcases h with rfl | ⟨h1, h2⟩
  · exact .inl rfl
  · exact .inr ⟨by rw [List.length_append]; omega, by rw [List.length_append]; omega⟩
theorem MkRel.cut {acc full : List DMarkovRule} (h : MkRel acc full) (hl : 60 < acc.length) (l : List DMarkovRule) : MkRel acc (full ++ l) := by
  rcases h with rfl | ⟨h1, h2⟩
  · exact .inr ⟨hl, by rw [List.length_append]; omega⟩
  · exact .inr ⟨h1, by rw [List.length_append]; omega⟩
theorem MkRel.yes {acc full : List DMarkovRule} (h : MkRel acc full) (hv : validMks acc = true) : acc = full := by
  rcases h with h | ⟨h1, _⟩
  · exact h
  · have := validMks_len hv; omega
theorem MkRel.no {acc full : List DMarkovRule} (h : MkRel acc full) (hv : validMks acc = false) : validMks full = false := by
  rcases h with rfl | ⟨_, h2⟩
  · exact hv
  · cases hf : validMks full with
    | false => rfl
    | true => have := validMks_len hf; omega
end Go.Proofs.Ytcfkjigapnknnaa

/- Tag systems: the reference's tests. -/
namespace Go.Proofs.Ytcfkjigapnknnaa
open Go.RowKit
set_option linter.all false

/-- A word over n letters. -/
def overB (n : Nat) (w : List Int) : Bool := w.all (fun x => inB x 0 ((n : Int) - 1)) && decide (w.length ≤ 1000)
def validTag (d : Int) (ws : List (List Int)) (hs : List Int) : Bool := inB d 1 4 && (inB (ws.length : Int) 1 200 && (risesB hs 0 ((ws.length : Int) - 1) && ws.all (overB ws.length)))

set_option maxRecDepth 100000 in
theorem l09Over_is (A : Option Addr) (n c : Nat) (m : Nat) (xs : List Int) (v : Bool) (hv : overB m xs = v) (w : World) (ha : Arg w A n (xs.map (.int .i64))) (hn : n ≤ 4194304) (hm : m ≤ 1048576) :
    Calls Try.prog 122 #[.slice A n c, .int .i64 m] w fun e w' => e = .returned (.bool v) ∧ w = w' := by
  subst hv
  have HL : Hid (xs.length = n) := by have := ha.1; rw [List.length_map] at this; exact this
  have wm : IntKind.i64.wrap ((m : Int) - 1) = (m : Int) - 1 := IntWalk.i64_in _ (by omega)
  go_enter Try.func122, Try.ntmps122
  go_wp2_with fail
  go_loop [5] (fun i => ∃ k : Nat, k ≤ n ∧ i = .int .i64 k ∧ Hid (∀ j x, j < k → xs[j]? = some x → inB x 0 ((m : Int) - 1) = true)) (fun i => n - (intOf i).toNat)
  case atStart => exact ⟨0, Nat.zero_le _, rfl, by intro j x hj; omega⟩
  case round =>
    obtain ⟨k, hk, rfl, HR⟩ := hrel
    by_cases hlt : k < n
    · obtain ⟨y, HY, hy⟩ := map_at (Value.int .i64) xs (k := k) (by have := HL.out; omega)
      obtain ⟨b, off, rfl, hs⟩ := ha.sl hlt
      have hcb := hs.at hy
      clear hy
      rcases Bool.eq_false_or_eq_true (inB y 0 ((m : Int) - 1)) with hb | hb
      rotate_left
      · have HB := Lib.hid hb
        clear hb
        go_wp2_with (go_at_call 93; refine (l00In_is y _ _ _ HB.out _).mono ?_; rintro e w' ⟨rfl, rfl⟩)
        go_ret
        exact ⟨ret_bool (by unfold overB; rw [all_no (p := fun x => inB x 0 ((m : Int) - 1)) HY.out HB.out, Bool.false_and]), rfl⟩
      · have HB := Lib.hid hb
        clear hb
        go_wp2_with (go_at_call 93; refine (l00In_is y _ _ _ HB.out _).mono ?_; rintro e w' ⟨rfl, rfl⟩)
        go_round
        case rel => exact ⟨k + 1, by omega, by go_num, by
          intro j x hj hx
          by_cases ej : j = k
          · subst ej
            have h2 := HY.out
            rw [hx] at h2; injection h2 with h2; subst h2; exact HB.out
          · exact HR.out j x (by omega) hx⟩
        case measure => simp [intOf]; omega
    · have HE : Hid (overB m xs = decide (n ≤ 1000)) := by
        have hl := HL.out
        unfold Hid overB
        have : xs.all (fun x => inB x 0 ((m : Int) - 1)) = true := by
          rw [List.all_eq_true]
          intro x hx
          obtain ⟨j, hj⟩ := List.getElem?_of_mem hx
          exact HR.out j x (by have := (List.getElem?_eq_some_iff.1 hj).1; omega) hj
        rw [this, hl, Bool.true_and]
      go_wp2_with fail
      go_ret
      exact ⟨ret_bool (by rw [HE.out]; first | rfl | (rw [decide_eq_decide]; omega) | (apply Bool.eq_iff_iff.2; simp; omega)), rfl⟩
end Go.Proofs.Ytcfkjigapnknnaa

/- What TagToMarkov gives, rule by rule, and the odometer's words: plain lemmas. -/
namespace Go.Proofs.Ytcfkjigapnknnaa
set_option linter.all false

theorem ltrs_len (n : Nat) : (ltrs n).length = n := by simp [ltrs]
theorem ltrs_succ (n : Nat) : ltrs (n + 1) = ltrs n ++ [(n : Int)] := by simp [ltrs, List.range_succ]
def ruleA (n : Nat) (i k : Int) : DMarkovRule := ⟨[(n : Int) + i, k], [k, (n : Int) + i], false⟩
def ruleB (n : Nat) (i : Int) (w : List Int) : DMarkovRule := ⟨[(n : Int) + i], w, false⟩
def ruleC (n : Nat) (i : Int) (x : List Int) : DMarkovRule := ⟨[2 * (n : Int), i] ++ x, [2 * (n : Int), (n : Int) + i], false⟩
def rulesCi (n l : Nat) (hs : List Int) (i : Int) : List DMarkovRule := if hs.contains i then [] else (wordsN n l).map (ruleC n i)
def rA (n i : Nat) : List DMarkovRule := (ltrs i).flatMap fun a => (ltrs n).map (ruleA n a)
def rA2 (n i k : Nat) : List DMarkovRule := rA n i ++ (ltrs k).map (ruleA n i)
def rB (n : Nat) (ws : List (List Int)) (i : Nat) : List DMarkovRule := (ws.take i).mapIdx fun i w => ruleB n (i : Int) w
def rC (n l : Nat) (hs : List Int) (i : Nat) : List DMarkovRule := (ltrs i).flatMap (rulesCi n l hs)
theorem rA_zero (n : Nat) : rA n 0 = [] := rfl
theorem rA_succ (n i : Nat) : rA n (i + 1) = rA2 n i n := by simp [rA, rA2, ltrs_succ]
theorem rA2_zero (n i : Nat) : rA2 n i 0 = rA n i := by simp [rA2, ltrs]
theorem rA2_succ (n i k : Nat) : rA2 n i (k + 1) = rA2 n i k ++ [ruleA n i k] := by simp [rA2, ltrs_succ]
theorem rA_all (n : Nat) : rA n n = rulesA n := rfl
theorem rA_len (n i : Nat) : (rA n i).length = i * n := by
  induction i with
  | zero => simp [rA_zero]
  | succ i ih => rw [rA_succ, rA2, List.length_append, ih, List.length_map, ltrs_len, Nat.succ_mul]
theorem rA2_len (n i k : Nat) : (rA2 n i k).length = i * n + k := by rw [rA2, List.length_append, rA_len, List.length_map, ltrs_len]
theorem rB_zero (n : Nat) (ws : List (List Int)) : rB n ws 0 = [] := rfl
theorem rB_succ {n : Nat} {ws : List (List Int)} {i : Nat} {x : List Int} (h : ws[i]? = some x) : rB n ws (i + 1) = rB n ws i ++ [ruleB n i x] := by
  have hi := (List.getElem?_eq_some_iff.1 h).1
  rw [rB, List.take_add_one, h]
  simp only [Option.toList_some]
  rw [List.mapIdx_append]
  simp [rB, List.length_take, Nat.min_eq_left (Nat.le_of_lt hi)]
theorem rB_all (ws : List (List Int)) : rB ws.length ws ws.length = rulesB ws.length ws := by
  rw [rB, List.take_length]; rfl
theorem rB_len (n : Nat) (ws : List (List Int)) (i : Nat) (h : i ≤ ws.length) : (rB n ws i).length = i := by simp [rB, Nat.min_eq_left h]
theorem rC_zero (n l : Nat) (hs : List Int) : rC n l hs 0 = [] := rfl
theorem rC_succ (n l : Nat) (hs : List Int) (i : Nat) : rC n l hs (i + 1) = rC n l hs i ++ rulesCi n l hs i := by simp [rC, ltrs_succ]
theorem rC_all (n l : Nat) (hs : List Int) : rC n l hs n = rulesC n l hs := rfl
theorem tagRules_eq (d : Int) (ws : List (List Int)) (hs : List Int) : tagRules d ws hs = rA ws.length ws.length ++ rB ws.length ws ws.length ++ rC ws.length (d - 1).toNat hs ws.length := by rw [rB_all]; rfl
theorem wordsN_len (n l : Nat) : (wordsN n l).length = n ^ l := by
  induction l with
  | zero => rfl
  | succ l ih =>
    rw [wordsN, List.length_flatMap]
    simp only [List.length_map, ltrs_len]
    rw [List.map_const', List.sum_replicate_nat, ih, Nat.pow_succ]
theorem wordsN_mem {n : Nat} : ∀ {l : Nat} {x : List Int}, x ∈ wordsN n l → x.length = l := by
  intro l
  induction l with
  | zero => intro x h; simp [wordsN] at h; subst h; rfl
  | succ l ih =>
    intro x h
    simp only [wordsN, List.mem_flatMap, List.mem_map] at h
    obtain ⟨y, hy, a, _, rfl⟩ := h
    simp [ih hy]

/-- Each rule is short. -/
def Short (xs : List DMarkovRule) : Prop := ∀ r ∈ xs, wlMarkovRule r ≤ 1010
theorem Short.nil : Short [] := fun r h => by cases h
theorem Short.app {xs ys : List DMarkovRule} (h : Short xs) (k : Short ys) : Short (xs ++ ys) := fun r hr => by
  rcases List.mem_append.1 hr with h1 | h1
  · exact h r h1
  · exact k r h1
theorem Short.one {r : DMarkovRule} (h : wlMarkovRule r ≤ 1010) : Short [r] := fun r hr => by rw [List.mem_singleton.1 hr]; exact h
theorem Short.sum {xs : List DMarkovRule} (h : Short xs) : sumMarkovRule xs ≤ xs.length * 1010 := by
  induction xs with
  | nil => simp [sumMarkovRule]
  | cons x xs ih =>
    have h1 := h x (List.mem_cons_self ..)
    have h2 := ih fun r hr => h r (List.mem_cons_of_mem _ hr)
    simp only [sumMarkovRule, List.map_cons, List.sum_cons, List.length_cons] at *
    omega
theorem short_A (n : Nat) (i k : Int) : wlMarkovRule (ruleA n i k) ≤ 1010 := by simp [ruleA, wlMarkovRule]
theorem short_B (n : Nat) (i : Int) (x : List Int) (h : x.length ≤ 1000) : wlMarkovRule (ruleB n i x) ≤ 1010 := by simp [ruleB, wlMarkovRule]; omega
theorem short_C (n : Nat) (i : Int) (x : List Int) (h : x.length ≤ 1000) : wlMarkovRule (ruleC n i x) ≤ 1010 := by simp [ruleC, wlMarkovRule]; omega
theorem short_map {α : Type} {f : α → DMarkovRule} {l : List α} (h : ∀ a ∈ l, wlMarkovRule (f a) ≤ 1010) : Short (l.map f) := fun r hr => by
  obtain ⟨a, ha, rfl⟩ := List.mem_map.1 hr
  exact h a ha
theorem short_rA (n i : Nat) : Short (rA n i) := by
  induction i with
  | zero => exact Short.nil
  | succ i ih => rw [rA_succ, rA2]; exact ih.app (short_map fun a _ => short_A n i a)
theorem short_rA2 (n i k : Nat) : Short (rA2 n i k) := by rw [rA2]; exact (short_rA n i).app (short_map fun a _ => short_A n i a)
theorem short_rB (n : Nat) (ws : List (List Int)) (h : ∀ x ∈ ws, x.length ≤ 1000) (i : Nat) (hi : i ≤ ws.length) : Short (rB n ws i) := by
  induction i with
  | zero => exact Short.nil
  | succ i ih =>
    have hg : ws[i]? = some ws[i] := List.getElem?_eq_getElem (by omega)
    rw [rB_succ hg]
    exact (ih (by omega)).app (Short.one (short_B n i _ (h _ (List.getElem_mem _))))
theorem short_rulesCi (n l : Nat) (hs : List Int) (i : Int) (hl : l ≤ 1000) : Short (rulesCi n l hs i) := by
  unfold rulesCi
  split
  · exact Short.nil
  · exact short_map fun x hx => short_C n i x (by rw [wordsN_mem hx]; exact hl)
theorem short_rC (n l : Nat) (hs : List Int) (i : Nat) (hl : l ≤ 1000) : Short (rC n l hs i) := by
  induction i with
  | zero => exact Short.nil
  | succ i ih => rw [rC_succ]; exact ih.app (short_rulesCi n l hs i hl)
theorem rulesCi_len (n l : Nat) (hs : List Int) (i : Int) : (rulesCi n l hs i).length ≤ n ^ l := by
  unfold rulesCi
  split
  · exact Nat.zero_le _
  · rw [List.length_map, wordsN_len]; exact Nat.le_refl _
theorem rC_len (n l : Nat) (hs : List Int) (i : Nat) : (rC n l hs i).length ≤ i * n ^ l := by
  induction i with
  | zero => exact Nat.zero_le _
  | succ i ih => rw [rC_succ, List.length_append, Nat.succ_mul]; exact Nat.add_le_add ih (rulesCi_len n l hs i)
theorem pow_small {n l : Nat} (hn : n ≤ 4) (hl : l ≤ 3) : n ^ l ≤ 64 := by
  have h1 : n ^ l ≤ 4 ^ l := Nat.pow_le_pow_left hn l
  have h2 : 4 ^ l ≤ 4 ^ 3 := Nat.pow_le_pow_right (by omega) hl
  exact Nat.le_trans h1 (Nat.le_trans h2 (by decide))

/-- The word behind a word: all at the last letter, or one letter turned. -/
theorem nextW_all {n : Nat} : ∀ {x : List Int}, (∀ b ∈ x, b = (n : Int) - 1) → nextW n x = none := by
  intro x
  induction x with
  | nil => intro _; rfl
  | cons a x ih =>
    intro h
    rw [nextW, ih fun b hb => h b (List.mem_cons_of_mem _ hb)]
    simp [h a (List.mem_cons_self ..)]
theorem nextW_turn {n : Nat} {a : Int} {q : List Int} (ha : a ≠ (n : Int) - 1) (hq : ∀ b ∈ q, b = (n : Int) - 1) : ∀ p : List Int, nextW n (p ++ a :: q) = some (p ++ (a + 1) :: List.replicate q.length 0) := by
  intro p
  induction p with
  | nil => rw [List.nil_append, nextW, nextW_all hq]; simp [ha]
  | cons b p ih => rw [List.cons_append, nextW, ih]; rfl
theorem ChainW.none {n : Nat} {x : List Int} {l : List (List Int)} (h : ChainW n x l) (hx : nextW n x = none) : l = [x] := by
  cases h with
  | last h => rfl
  | step h t => rw [hx] at h; cases h
theorem ChainW.some {n : Nat} {x y : List Int} {l : List (List Int)} (h : ChainW n x l) (hx : nextW n x = some y) : ∃ t, l = x :: t ∧ ChainW n y t := by
  cases h with
  | last h => rw [hx] at h; cases h
  | step h t => rw [hx] at h; injection h with h; subst h; exact ⟨_, rfl, t⟩
theorem ChainW.head {n : Nat} {x : List Int} {l : List (List Int)} (h : ChainW n x l) : ∃ t, l = x :: t := by
  cases h with
  | last h => exact ⟨_, rfl⟩
  | step h t => exact ⟨_, rfl⟩

/-- TagToMarkov's answer. -/
def tagOk (d : Int) (ws : List (List Int)) (hs : List Int) : Bool := decide (2 * ws.length ≤ 9) && validMks (tagRules d ws hs)
def tagToMarkov (d : Int) (ws : List (List Int)) (hs : List Int) : List DMarkovRule × Int :=
  if validTag d ws hs then (if tagOk d ws hs then (tagRules d ws hs, 0) else ([], 5)) else ([], 1)
theorem validMks_sum {xs : List DMarkovRule} (h : validMks xs = true) : xs.length ≤ 60 ∧ sumMarkovRule xs ≤ 48000 := by
  have hl := validMks_len h
  refine ⟨hl.2, ?_⟩
  have h1 : ∀ r ∈ xs, wlMarkovRule r ≤ 800 := fun r hr => by
    obtain ⟨a, b⟩ := okMk_parts (okMk_at h hr)
    unfold isWordB at a b
    simp at a b
    unfold wlMarkovRule
    omega
  have h2 : ∀ ys : List DMarkovRule, (∀ r ∈ ys, wlMarkovRule r ≤ 800) → sumMarkovRule ys ≤ ys.length * 800 := by
    intro ys
    induction ys with
    | nil => intro _; simp [sumMarkovRule]
    | cons y ys ih =>
      intro h
      have k1 := h y (List.mem_cons_self ..)
      have k2 := ih fun r hr => h r (List.mem_cons_of_mem _ hr)
      simp only [sumMarkovRule, List.map_cons, List.sum_cons, List.length_cons] at *
      omega
  have := h2 xs h1
  omega
theorem bndTagToMarkov0 (d : Int) (ws : List (List Int)) (hs : List Int) (h0 : ws.length ≤ 1048576) (h1 : sumLen ws ≤ 1048576) (h2 : hs.length ≤ 1048576) : ((tagToMarkov d ws hs).1).length ≤ 1048576 ∧ sumMarkovRule ((tagToMarkov d ws hs).1) ≤ 1048576 := by
  have e0 : (tagToMarkov d ws hs).1 = [] ∨ ((tagToMarkov d ws hs).1 = tagRules d ws hs ∧ validMks (tagRules d ws hs) = true) := by
    unfold tagToMarkov
    by_cases h1 : validTag d ws hs = true
    · rw [if_pos h1]
      by_cases h3 : tagOk d ws hs = true
      · rw [if_pos h3]
        unfold tagOk at h3
        exact .inr ⟨rfl, (Bool.and_eq_true _ _ ▸ h3).2⟩
      · rw [if_neg h3]; exact .inl rfl
    · rw [if_neg h1]; exact .inl rfl
  rcases e0 with e | ⟨e, h⟩
  · rw [e]; exact ⟨Nat.zero_le _, Nat.zero_le _⟩
  · rw [e]
    have := validMks_sum h
    exact ⟨by omega, by omega⟩
theorem validTag_parts {d : Int} {ws : List (List Int)} {hs : List Int} (h : validTag d ws hs = true) : 1 ≤ d ∧ d ≤ 4 ∧ 1 ≤ ws.length ∧ ws.length ≤ 200 ∧ risesB hs 0 ((ws.length : Int) - 1) = true ∧ ∀ x ∈ ws, x.length ≤ 1000 ∧ ∀ a ∈ x, 0 ≤ a ∧ a ≤ (ws.length : Int) - 1 := by
  unfold validTag at h
  simp only [Bool.and_eq_true, inB_iff, List.all_eq_true] at h
  obtain ⟨h1, h2, h3, h4⟩ := h
  refine ⟨h1.1, h1.2, by omega, by omega, h3, fun x hx => ?_⟩
  have := h4 x hx
  unfold overB at this
  simp only [Bool.and_eq_true, List.all_eq_true, inB_iff, decide_eq_true_eq] at this
  exact ⟨this.2, this.1⟩
end Go.Proofs.Ytcfkjigapnknnaa

/- Tag systems: whether one is valid, by the reference. -/
namespace Go.Proofs.Ytcfkjigapnknnaa
open Go.RowKit
set_option linter.all false

theorem l00RisesT_is (b off n c : Nat) (xs : List Int) (lo hi : Int) (v : Bool) (hv : risesB xs lo hi = v) (w : World) (hs : Sl w b off (xs.map (.int .i64))) (hl : xs.length = n) (hn : n ≤ 4194304) :
    Calls Try.prog 121 #[.slice (some ⟨b, off, none⟩) n c, .int .i64 lo, .int .i64 hi] w fun e w' => e = .returned (.bool v) ∧ ∃ q, w' = w.drewN q := by
  subst hv; exact l00Rises_any b off n c xs lo hi w hs hl hn

set_option maxRecDepth 100000 in
set_option maxHeartbeats 1000000 in
theorem l09Is_is (gt : Nat) (d : Int) (bw ow nw cw : Nat) (us : List Value) (ws : List (List Int)) (bh oh nh ch : Nat) (hs : List Int) (v : Bool) (hv : validTag d ws hs = v) (w : World)
    (t0 : w.cell? ⟨gt, 0, none⟩ = some (.int .i64 d)) (t1 : w.cell? ⟨gt, 1, none⟩ = some (.slice (some ⟨bw, ow, none⟩) nw cw)) (t2 : w.cell? ⟨gt, 2, none⟩ = some (.slice (some ⟨bh, oh, none⟩) nh ch))
    (sw : Sl w bw ow us) (sr : Srcs 1 oneI w us ws) (lw : ws.length = nw) (hnw : nw ≤ 1048576) (hsum : sumLen ws ≤ 1048576) (sh : Sl w bh oh (hs.map (.int .i64))) (lh : hs.length = nh) (hnh : nh ≤ 1048576) :
    Calls Try.prog 68 #[.pointer (some ⟨gt, 0, none⟩)] w fun e w' => e = .returned (.bool v) ∧ ∃ q, w' = w.drewN q := by
  subst hv
  have HLW := Lib.hid lw
  have HLH := Lib.hid lh
  have HSUM := Lib.hid hsum
  clear lh hsum
  rcases Bool.eq_false_or_eq_true (inB d 1 4) with h1 | h1
  rotate_left
  · have H1 := Lib.hid h1
    have HV : Hid (validTag d ws hs = false) := by unfold Hid validTag; rw [h1]; rfl
    clear h1
    go_enter Try.func68, Try.ntmps68
    go_wp2_with fail
    refine (l00In_is d 1 4 _ H1.out _).mono ?_
    rintro e w' ⟨rfl, rfl⟩
    go_wp2_with fail
    go_ret
    exact ⟨ret_bool (by rw [HV.out]), 0, rfl⟩
  rcases Bool.eq_false_or_eq_true (inB (nw : Int) 1 200) with h2 | h2
  rotate_left
  · have H1 := Lib.hid h1
    have H2 := Lib.hid h2
    have HV : Hid (validTag d ws hs = false) := by unfold Hid validTag; rw [lw, h1, h2]; rfl
    clear h1 h2
    go_enter Try.func68, Try.ntmps68
    go_wp2_with fail
    refine (l00In_is d 1 4 _ H1.out _).mono ?_
    rintro e w' ⟨rfl, rfl⟩
    go_wp2_with fail
    refine (l00In_is (nw : Int) 1 200 _ H2.out _).mono ?_
    rintro e w' ⟨rfl, rfl⟩
    go_wp2_with fail
    go_ret
    exact ⟨ret_bool (by rw [HV.out]), 0, rfl⟩
  have wn : IntKind.i64.wrap ((nw : Int) - 1) = (nw : Int) - 1 := IntWalk.i64_in _ (by omega)
  rcases Bool.eq_false_or_eq_true (risesB hs 0 ((nw : Int) - 1)) with h3 | h3
  rotate_left
  · have H1 := Lib.hid h1
    have H2 := Lib.hid h2
    have H3 := Lib.hid h3
    have HV : Hid (validTag d ws hs = false) := by unfold Hid validTag; rw [lw, h1, h2, h3]; rfl
    clear h1 h2 h3
    go_enter Try.func68, Try.ntmps68
    go_wp2_with fail
    refine (l00In_is d 1 4 _ H1.out _).mono ?_
    rintro e w' ⟨rfl, rfl⟩
    go_wp2_with fail
    refine (l00In_is (nw : Int) 1 200 _ H2.out _).mono ?_
    rintro e w' ⟨rfl, rfl⟩
    go_wp2_with fail
    refine (l00RisesT_is bh oh nh ch hs 0 ((nw : Int) - 1) _ H3.out _ sh HLH.out (by omega)).mono ?_
    rintro e w' ⟨rfl, q, rfl⟩
    go_wp2_with fail
    go_ret
    exact ⟨ret_bool (by rw [HV.out]), q, rfl⟩
  have H1 := Lib.hid h1
  have H2 := Lib.hid h2
  have H3 := Lib.hid h3
  have HV : Hid (validTag d ws hs = ws.all (overB nw)) := by unfold Hid validTag; rw [lw, h1, h2, h3]; rfl
  clear h1 h2 h3 lw
  go_enter Try.func68, Try.ntmps68
  go_wp2_with fail
  refine (l00In_is d 1 4 _ H1.out _).mono ?_
  rintro e w' ⟨rfl, rfl⟩
  go_wp2_with fail
  refine (l00In_is (nw : Int) 1 200 _ H2.out _).mono ?_
  rintro e w' ⟨rfl, rfl⟩
  go_wp2_with fail
  refine (l00RisesT_is bh oh nh ch hs 0 ((nw : Int) - 1) _ H3.out _ sh HLH.out (by omega)).mono ?_
  rintro e w' ⟨rfl, q0, rfl⟩
  have s1 : (w.drewN q0).cell? ⟨gt, 1, none⟩ = some (.slice (some ⟨bw, ow, none⟩) nw cw) := t1
  go_wp2_with fail
  go_loopw [4] (fun i wr => ∃ k q : Nat, k ≤ nw ∧ i = .int .i64 k ∧ wr = w.drewN q ∧ Hid (∀ j x, j < k → ws[j]? = some x → overB nw x = true)) (fun i _ => nw - (intOf i).toNat)
  case atStart => exact ⟨0, q0, Nat.zero_le _, rfl, rfl, by intro j x hj; omega⟩
  case round =>
    obtain ⟨k, q, hk, rfl, rfl, HR⟩ := hrel
    have s1 : (w.drewN q).cell? ⟨gt, 1, none⟩ = some (.slice (some ⟨bw, ow, none⟩) nw cw) := t1
    by_cases hlt : k < nw
    · obtain ⟨x, HX⟩ := hget HLW hlt
      have hlen : us.length = nw := by have := sr.1; have := HLW.out; omega
      obtain ⟨u, hu⟩ : ∃ u, us[k]? = some u := ⟨_, List.getElem?_eq_getElem (by omega)⟩
      have hsrc := sr.2 k u x hu HX.out
      obtain ⟨Au, cu, rfl⟩ := hsrc.form
      have hxl : x.length ≤ 1048576 := Nat.le_trans (sumLen_mem (List.mem_of_getElem? HX.out)) HSUM.out
      obtain ⟨nx, hnx⟩ : ∃ nx, nx = x.length := ⟨_, rfl⟩
      rw [← hnx] at hsrc hu hxl
      clear hnx
      have hau : Arg (w.drewN q) Au nx (x.map (.int .i64)) := by have := hsrc.arg; rwa [rows_oneI] at this
      have hcu : (w.drewN q).cell? ⟨bw, ow + k, none⟩ = some (.slice Au nx cu) := sw.at hu
      clear hlen hsrc hu
      rcases Bool.eq_false_or_eq_true (overB nw x) with hb | hb
      rotate_left
      · have HB := Lib.hid hb
        clear hb
        go_wp2_with (go_at_call 122; refine (l09Over_is Au nx cu nw x false HB.out _ hau (by omega) hnw).mono ?_; rintro e w' ⟨rfl, rfl⟩)
        go_ret
        exact ⟨ret_bool (by rw [HV.out, List.all_eq_false.2 ⟨x, List.mem_of_getElem? HX.out, by rw [HB.out]; simp⟩]), q, rfl⟩
      · have HB := Lib.hid hb
        clear hb
        go_wp2_with (go_at_call 122; refine (l09Over_is Au nx cu nw x true HB.out _ hau (by omega) hnw).mono ?_; rintro e w' ⟨rfl, rfl⟩)
        go_roundw
        case rel => exact ⟨k + 1, q, by omega, by go_num, rfl, by
          intro j y hj hy
          by_cases ej : j = k
          · subst ej
            have h2 := HX.out
            rw [hy] at h2; injection h2 with h2; subst h2; exact HB.out
          · exact HR.out j y (by omega) hy⟩
        case measure => simp [intOf]; omega
    · have HE : Hid (ws.all (overB nw) = true) := by
        have hl := HLW.out
        unfold Hid
        rw [List.all_eq_true]
        intro x hx
        obtain ⟨j, hj⟩ := List.getElem?_of_mem hx
        exact HR.out j x (by have := (List.getElem?_eq_some_iff.1 hj).1; omega) hj
      go_wp2_with fail
      go_ret
      exact ⟨ret_bool (by rw [HV.out, HE.out]), q, rfl⟩
end Go.Proofs.Ytcfkjigapnknnaa

/- Tag systems: small contracts. -/
namespace Go.Proofs.Ytcfkjigapnknnaa
open Go.RowKit
set_option linter.all false

theorem l16Front_is (gt : Nat) (A : Option Addr) (n c : Nat) (w : World) (t1 : w.cell? ⟨gt, 1, none⟩ = some (.slice A n c)) (hn : n ≤ 1048576) :
    Calls Try.prog 83 #[.pointer (some ⟨gt, 0, none⟩)] w fun e w' => e = .returned (.int .i64 (2 * (n : Int))) ∧ w = w' := by
  have wm : IntKind.i64.wrap (2 * (n : Int)) = 2 * (n : Int) := IntWalk.i64_in _ (by omega)
  go_enter Try.func83, Try.ntmps83
  go_wp2_with fail
  go_ret
  exact ⟨rfl, rfl⟩
theorem sizeWordsT_any (A : Option Addr) (n c : Nat) (w : World) : Calls Try.prog 126 #[.slice A n c] w fun e w' => e = .returned (.int .i64 n) ∧ w = w' := by
  go_enter Try.func126, Try.ntmps126
  go_wp2
  go_ret
  exact ⟨rfl, rfl⟩

theorem isTagWord_is (b off n c m : Nat) (xs : List Int) (v : Bool) (hv : overB m xs = v) (w : World) (hs : Sl w b off (xs.map (.int .i64))) (hl : xs.length = n) (hn : n ≤ 4194304) (hm : m ≤ 1048576) :
    Calls Try.prog 148 #[.slice (some ⟨b, off, none⟩) n c, .int .i64 m] w fun e w' => e = .returned (.bool v) ∧ w = w' := by
  have wm : IntKind.i64.wrap ((m : Int) - 1) = (m : Int) - 1 := IntWalk.i64_in _ (by omega)
  have HL := Lib.hid hl
  by_cases h : n ≤ 1000
  · obtain ⟨va, hva⟩ : ∃ va, va = xs.all (fun x => inB x 0 ((m : Int) - 1)) := ⟨_, rfl⟩
    have HA := Lib.hid hva.symm
    have HV : Hid (va = v) := by unfold Hid; rw [← hv, overB, ← hva, hl, decide_eq_true h, Bool.and_true]
    clear hv hva hl
    go_enter Try.func148, Try.ntmps148
    go_wp2_with fail
    refine (allWithin_any b off n c xs 0 ((m : Int) - 1) _ hs HL.out hn).mono ?_
    rintro e w' ⟨rfl, rfl⟩
    go_wp2_with fail
    go_ret
    exact ⟨ret_bool (by rw [← HV.out, ← HA.out]), rfl⟩
  · have HV : Hid (v = false) := by unfold Hid; rw [← hv, overB, hl, decide_eq_false h, Bool.and_false]
    clear hv hl
    go_enter Try.func148, Try.ntmps148
    go_wp2_with fail
    go_ret
    exact ⟨ret_bool HV.out.symm, rfl⟩
end Go.Proofs.Ytcfkjigapnknnaa

/- Tag systems: the program's tests. -/
namespace Go.Proofs.Ytcfkjigapnknnaa
open Go.RowKit
set_option linter.all false

set_option maxRecDepth 100000 in
theorem allWithinA_is (A : Option Addr) (n c : Nat) (xs : List Int) (lo hi : Int) (v : Bool) (hv : xs.all (inB · lo hi) = v) (w : World) (ha : Arg w A n (xs.map (.int .i64))) (hn : n ≤ 4194304) :
    Calls Try.prog 107 #[.slice A n c, .int .i64 lo, .int .i64 hi] w fun e w' => e = .returned (.bool v) ∧ w = w' := by
  subst hv
  have HL : Hid (xs.length = n) := by have := ha.1; rw [List.length_map] at this; exact this
  go_enter Try.func107, Try.ntmps107
  go_wp2
  go_loop [11] (fun i => ∃ k : Nat, k ≤ n ∧ i = .int .i64 k ∧ Hid (∀ j x, j < k → xs[j]? = some x → inB x lo hi = true)) (fun i => n - (intOf i).toNat)
  case atStart => exact ⟨0, Nat.zero_le _, rfl, by intro j x hj; omega⟩
  case round =>
    obtain ⟨k, hk, rfl, HR⟩ := hrel
    by_cases hlt : k < n
    · obtain ⟨y, HY, hy⟩ := map_at (Value.int .i64) xs (k := k) (by have := HL.out; omega)
      obtain ⟨b, off, rfl, hs⟩ := ha.sl hlt
      have hcb := hs.at hy
      clear hy hs
      rcases Bool.eq_false_or_eq_true (inB y lo hi) with hb | hb
      rotate_left
      · have HB := Lib.hid hb
        clear hb
        go_wp2_with (go_at_call 99; refine (within_is y lo hi _ HB.out _).mono ?_; rintro e w' ⟨rfl, rfl⟩)
        go_ret
        exact ⟨ret_bool (all_no HY.out HB.out).symm, rfl⟩
      · have HB := Lib.hid hb
        clear hb
        go_wp2_with (go_at_call 99; refine (within_is y lo hi _ HB.out _).mono ?_; rintro e w' ⟨rfl, rfl⟩)
        go_round
        case rel => exact ⟨k + 1, by omega, by go_num, by
          intro j x hj hx
          by_cases ej : j = k
          · subst ej
            have h2 := HY.out
            rw [hx] at h2; injection h2 with h2; subst h2; exact HB.out
          · exact HR.out j x (by omega) hx⟩
        case measure => simp [intOf]; omega
    · go_wp2
      go_ret
      refine ⟨ret_bool ?_, rfl⟩
      symm
      have hl := HL.out
      rw [List.all_eq_true]
      intro x hx
      obtain ⟨j, hj⟩ := List.getElem?_of_mem hx
      exact HR.out j x (by have := (List.getElem?_eq_some_iff.1 hj).1; omega) hj

theorem isTagWordA_is (A : Option Addr) (n c m : Nat) (xs : List Int) (v : Bool) (hv : overB m xs = v) (w : World) (hs : Arg w A n (xs.map (.int .i64))) (hn : n ≤ 4194304) (hm : m ≤ 1048576) :
    Calls Try.prog 148 #[.slice A n c, .int .i64 m] w fun e w' => e = .returned (.bool v) ∧ w = w' := by
  have wm : IntKind.i64.wrap ((m : Int) - 1) = (m : Int) - 1 := IntWalk.i64_in _ (by omega)
  have hl : xs.length = n := by have := hs.1; rw [List.length_map] at this; exact this
  by_cases h : n ≤ 1000
  · have HV : Hid (xs.all (fun x => inB x 0 ((m : Int) - 1)) = v) := by unfold Hid; rw [← hv, overB, hl, decide_eq_true h, Bool.and_true]
    clear hv hl
    go_enter Try.func148, Try.ntmps148
    go_wp2_with fail
    refine (allWithinA_is A n c xs 0 ((m : Int) - 1) _ HV.out _ hs hn).mono ?_
    rintro e w' ⟨rfl, rfl⟩
    go_wp2_with fail
    go_ret
    exact ⟨rfl, rfl⟩
  · have HV : Hid (v = false) := by unfold Hid; rw [← hv, overB, hl, decide_eq_false h, Bool.and_false]
    clear hv hl
    go_enter Try.func148, Try.ntmps148
    go_wp2_with fail
    go_ret
    exact ⟨ret_bool HV.out.symm, rfl⟩

theorem notTagWord_is (A : Option Addr) (n c m gl : Nat) (xs : List Int) (v : Bool) (hv : overB m xs = v) (w : World) (hg : w.cell? ⟨gl, 0, none⟩ = some (.int .i64 m)) (hs : Arg w A n (xs.map (.int .i64))) (hn : n ≤ 4194304) (hm : m ≤ 1048576) :
    Calls Try.prog 156 #[.slice A n c, .pointer (some ⟨gl, 0, none⟩)] w fun e w' => e = .returned (.bool (!v)) ∧ w = w' := by
  have HV := Lib.hid hv
  clear hv
  go_enter Try.func156, Try.ntmps156
  go_wp2_with fail
  refine (isTagWordA_is A n c m xs v HV.out _ hs hn hm).mono ?_
  rintro e w' ⟨rfl, rfl⟩
  go_wp2_with fail
  go_ret
  exact ⟨rfl, rfl⟩

set_option maxRecDepth 100000 in
/-- slices.IndexFunc on words, whatever the function value. -/
theorem indexFuncW_is (F : FuncId) (caps : Array Value) (p : List Int → Bool) (g off m c : Nat) (us : List Value) (ts : List (List Int)) (w : World) (hs : Sl w g off us) (hv : Srcs 1 oneI w us ts) (hm : ts.length = m) (hl : m ≤ 1048576) (hb : sumLen ts ≤ 1048576)
    (hE : ∀ (args : Array Value) (W : World), (callFunc F args).run Try.prog W = .ok (.enter F args) W)
    (hF : Hid (∀ (A : Option Addr) (n c : Nat) (t : List Int) (v : Bool), Arg w A n (t.map (.int .i64)) → n ≤ 1048576 → p t = v → Calls Try.prog F (#[.slice A n c] ++ caps) w fun e w' => e = .returned (.bool v) ∧ w = w')) :
    Calls Try.prog 176 #[.slice (some ⟨g, off, none⟩) m c, .func (.func F) #[] caps] w fun e w' => e = .returned (.int .i64 (findI p ts)) ∧ w = w' := by
  have HM := Lib.hid hm; have HSUM := Lib.hid hb
  clear hm hb
  go_enter Try.func176, Try.ntmps176
  go_wp2_with fail
  go_loop [8] (fun i => ∃ k : Nat, k ≤ m ∧ i = .int .i64 k ∧ Hid (∀ j t, j < k → ts[j]? = some t → p t = false)) (fun i => m - (intOf i).toNat)
  case atStart => exact ⟨0, Nat.zero_le _, rfl, by intro j t hj; omega⟩
  case round =>
    obtain ⟨k, hk, rfl, HR⟩ := hrel
    by_cases hlt : k < m
    · obtain ⟨x, HX⟩ := hget HM hlt
      have hlen : us.length = m := by have := hv.1; have := HM.out; omega
      obtain ⟨u, hu⟩ : ∃ u, us[k]? = some u := ⟨_, List.getElem?_eq_getElem (by omega)⟩
      have hsrc := hv.2 k u x hu HX.out
      obtain ⟨Au, cu, rfl⟩ := hsrc.form
      have hxl : x.length ≤ 1048576 := Nat.le_trans (sumLen_mem (List.mem_of_getElem? HX.out)) HSUM.out
      obtain ⟨nx, hnx⟩ : ∃ nx, nx = x.length := ⟨_, rfl⟩
      rw [← hnx] at hsrc hu hxl
      clear hnx
      have hau : Arg w Au nx (x.map (.int .i64)) := by have := hsrc.arg; rwa [rows_oneI] at this
      have hcu : w.cell? ⟨g, off + k, none⟩ = some (.slice Au nx cu) := hs.at hu
      clear hlen hsrc hu
      rcases Bool.eq_false_or_eq_true (p x) with hb | hb
      · have HB := Lib.hid hb; clear hb
        have HC := Lib.hid (hF.out Au nx cu x true hau hxl HB.out)
        go_wp2_with fail
        refine HC.out.mono ?_
        rintro e w' ⟨rfl, rfl⟩
        go_wp2
        go_ret
        exact ⟨ret_int (findI_some HR.out HX.out HB.out).symm, rfl⟩
      · have HB := Lib.hid hb; clear hb
        have HC := Lib.hid (hF.out Au nx cu x false hau hxl HB.out)
        go_wp2_with fail
        refine HC.out.mono ?_
        rintro e w' ⟨rfl, rfl⟩
        go_wp2
        go_round
        case rel => exact ⟨k + 1, by omega, by go_num, by
          intro j t' hj ht'
          by_cases ej : j = k
          · subst ej
            have h2 := HX.out
            rw [ht'] at h2; injection h2 with h2; subst h2; exact HB.out
          · exact HR.out j t' (by omega) ht'⟩
        case measure => simp [intOf]; omega
    · go_wp2
      go_ret
      refine ⟨ret_int ?_, rfl⟩
      rw [findI_none]
      intro j x hx
      exact HR.out j x (by have := (List.getElem?_eq_some_iff.1 hx).1; have := HM.out; omega) hx

set_option maxRecDepth 100000 in
theorem containsFuncW_is (F : FuncId) (caps : Array Value) (p : List Int → Bool) (g off m c : Nat) (us : List Value) (ts : List (List Int)) (w : World) (hs : Sl w g off us) (hv : Srcs 1 oneI w us ts) (hm : ts.length = m) (hl : m ≤ 1048576) (hb : sumLen ts ≤ 1048576)
    (hE : ∀ (args : Array Value) (W : World), (callFunc F args).run Try.prog W = .ok (.enter F args) W)
    (hF : Hid (∀ (A : Option Addr) (n c : Nat) (t : List Int) (v : Bool), Arg w A n (t.map (.int .i64)) → n ≤ 1048576 → p t = v → Calls Try.prog F (#[.slice A n c] ++ caps) w fun e w' => e = .returned (.bool v) ∧ w = w')) (v : Bool) (hv2 : ts.any p = v) :
    Calls Try.prog 154 #[.slice (some ⟨g, off, none⟩) m c, .func (.func F) #[] caps] w fun e w' => e = .returned (.bool v) ∧ w = w' := by
  have HV : Hid (decide (0 ≤ findI p ts) = v) := by unfold Hid; rw [findI_any, hv2]
  clear hv2
  rcases Bool.eq_false_or_eq_true (decide (0 ≤ findI p ts)) with hd | hd
  · have h0 : 0 ≤ findI p ts := of_decide_eq_true hd
    have HW := Lib.hid (hd.symm.trans HV.out); clear hd
    go_enter Try.func154, Try.ntmps154
    go_wp2_with fail
    refine (indexFuncW_is F caps p g off m c us ts _ hs hv hm hl hb hE hF).mono ?_
    rintro e w1 ⟨rfl, rfl⟩
    go_wp2
    go_ret
    exact ⟨ret_bool (by first | exact HW.out | (rw [← HW.out]; simp; omega)), rfl⟩
  · have h0 : findI p ts < 0 := by have := of_decide_eq_false hd; omega
    have HW := Lib.hid (hd.symm.trans HV.out); clear hd
    go_enter Try.func154, Try.ntmps154
    go_wp2_with fail
    refine (indexFuncW_is F caps p g off m c us ts _ hs hv hm hl hb hE hF).mono ?_
    rintro e w1 ⟨rfl, rfl⟩
    go_wp2
    go_ret
    exact ⟨ret_bool (by first | exact HW.out | (rw [← HW.out]; simp; omega)), rfl⟩

theorem wordsOk_is (g off n c m : Nat) (us : List Value) (ts : List (List Int)) (v : Bool) (hv : ts.all (overB m) = v) (w : World) (hs : Sl w g off us) (hr : Srcs 1 oneI w us ts) (hl : ts.length = n) (hn : n ≤ 1048576) (hb : sumLen ts ≤ 1048576) (hm : m ≤ 1048576) :
    Calls Try.prog 127 #[.slice (some ⟨g, off, none⟩) n c, .int .i64 m] w fun e w' => e = .returned (.bool v) ∧ Below w.heap.size w w' := by
  obtain ⟨w0, HW0, B0, x0⟩ := al1 w (.cells #[.int .i64 m] 2)
  have hany : ts.any (fun t => !overB m t) = !v := by rw [← hv, List.not_all_eq_any_not]
  have c0 : w0.cell? ⟨w.heap.size, 0, none⟩ = some (.int .i64 m) := by rw [cell_of_heap x0]; rfl
  have HC := Lib.hid (containsFuncW_is 156 #[.pointer (some ⟨w.heap.size, 0, none⟩)] (fun t => !overB m t) g off n c us ts w0 (hs.below' B0) (hr.below B0) hl hn hb (fun args W => enters_of' Try.func156 rfl rfl args W)
    (fun A k c t u ha hk hu => by
      refine (notTagWord_is A k c m w.heap.size t (!u) (by rw [← hu]; simp) w0 c0 ha (by omega) hm).mono ?_
      rintro e w' ⟨rfl, rfl⟩
      exact ⟨ret_bool (by simp), rfl⟩) (!v) hany)
  clear hany hv x0
  go_enter Try.func127, Try.ntmps127
  go_wp2_with fail
  rw [← HW0.out]
  refine HC.out.mono ?_
  rintro e w' ⟨rfl, rfl⟩
  go_wp2_with fail
  go_ret
  exact ⟨ret_bool (by simp), B0⟩
end Go.Proofs.Ytcfkjigapnknnaa

/- A variable that holds a record: the block that holds its cells. Plain lemma. -/
namespace Go.Proofs.Ytcfkjigapnknnaa
open Go.RowKit
theorem box_held {w : World} {k : Nat} {o : Obj} (h : w.heap[k]? = some o) : Held k (k + 1) (fun W => W.heap[k]? = some o) w :=
  ⟨heap_lt h, h, fun _ _ ha hk => (hk k (Nat.le_refl _) (Nat.lt_succ_self _)).trans ha⟩
end Go.Proofs.Ytcfkjigapnknnaa

/- Small contracts on rows of numbers: clone, l00Has, allWithin, rising. No conditions beyond the sizes. -/
namespace Go.Proofs.Ytcfkjigapnknnaa
open Go.RowKit
set_option linter.all false

theorem own_cap {w : World} {base : Nat} {e : TypeId} {size n : Nat} {v : Value} {xs : List Value} (h : w.ownsRow base e size v n xs) : ∀ A c, v = .slice A n c → n ≤ c := by
  intro A c hv
  rcases h.2 with ⟨h0, h1⟩ | ⟨g, cap, cur, h0, _, _, h1, _⟩
  · omega
  · rw [h0] at hv; injection hv with _ _ h3; omega

theorem allWithin_is (b off n c : Nat) (xs : List Int) (lo hi : Int) (v : Bool) (hv : xs.all (inB · lo hi) = v) (w : World) (hs : Sl w b off (xs.map (.int .i64))) (hl : xs.length = n) (hn : n ≤ 4194304) :
    Calls Try.prog 107 #[.slice (some ⟨b, off, none⟩) n c, .int .i64 lo, .int .i64 hi] w fun e w' => e = .returned (.bool v) ∧ w = w' := by
  subst hv; exact allWithin_any b off n c xs lo hi w hs hl hn

theorem rising_is (b off n c : Nat) (xs : List Int) (v : Bool) (hv : upB xs = v) (w : World) (hs : Sl w b off (xs.map (.int .i64))) (hl : xs.length = n) (hn : n ≤ 4194304) :
    Calls Try.prog 128 #[.slice (some ⟨b, off, none⟩) n c] w fun e w' => e = .returned (.bool v) ∧ ∃ q, w' = w.drewN q := by
  subst hv; exact rising_any b off n c xs w hs hl hn

set_option maxRecDepth 100000 in
theorem cloneInt64_any (v0 : Value) (n : Nat) (xs : List Int) (w : World) (hsrc : Src 1 w v0 n (xs.map (Value.int .i64))) (hn : n ≤ 1048576) :
    Calls Try.prog 90 #[v0] w fun e w' => ∃ v, e = .returned v ∧ w'.ownsRow w.heap.size 2 1 v n (xs.map (Value.int .i64)) ∧ Below w.heap.size w w' := by
  rcases hsrc.2 with ⟨rfl, rfl⟩ | ⟨b, off, c, rfl, hs⟩
  · have h0 : xs.map (Value.int .i64) = [] := List.eq_nil_of_length_eq_zero (by simpa using hsrc.1)
    have H0 := Lib.hid h0; clear h0
    have hnl := run_nil_none Try.underlying25
    go_enter Try.func90, Try.ntmps90
    go_wp2
    go_ret
    exact ⟨_, rfl, by rw [H0.out]; exact World.ownsRow_nil _ _ _ _, Below.refl _ _⟩
  · have hown0 : (w.alloc (.cells #[] 2)).ownsRow w.heap.size 2 1 (.slice (some ⟨w.heap.size, 0, none⟩) 0 0) 0 [] := own_empty w 2 1
    have hB0 := laid_below w (.cells #[] 2)
    have hsrc1 := hsrc.below hB0
    have HO := Lib.hid (one_ints .i64 xs)
    clear hsrc hs
    have hnl := run_nil_some Try.underlying25 ⟨b, off, none⟩ n c
    go_enter Try.func90, Try.ntmps90
    go_wp2_with (at_builtin; refine wpList_appx rfl _ _ _ rfl Try.underlying25 infoInt64S rfl (by omega) w.heap.size hown0 hB0.size rfl hsrc1 rfl HO.out (by unfold maxLen; omega) (by omega) ?_; intro v2 w2 hown2 hg2 hnil2; have hB2 := grown_below hB0 hown0 (Nat.le_refl _) hg2; clear hnil2 hown0 hB0 hsrc1 hg2)
    go_ret
    exact ⟨_, rfl, by simpa using hown2, hB2⟩

theorem l00Has_is (A : Option Addr) (n c : Nat) (xs : List Int) (x : Int) (v : Bool) (hv : decide (x ∈ xs) = v) (w : World) (ha : Arg w A n (xs.map (Value.int .i64))) (hn : n ≤ 1048576) :
    Calls Try.prog 124 #[.slice A n c, .int .i64 x] w fun e w' => e = .returned (.bool v) ∧ w = w' := by
  subst hv
  have HL : Hid (xs.length = n) := by have := ha.1; simpa [Hid] using this
  go_enter Try.func124, Try.ntmps124
  go_wp2
  go_loop [5] (fun i => ∃ k : Nat, k ≤ n ∧ i = .int .i64 k ∧ Hid (x ∉ xs.take k)) (fun i => n - (intOf i).toNat)
  case atStart => exact ⟨0, Nat.zero_le _, rfl, by simp [Hid]⟩
  case round =>
    obtain ⟨k, hk, rfl, HN⟩ := hrel
    by_cases hlt : k < n
    · obtain ⟨b, off, rfl, hs⟩ := ha.sl hlt
      obtain ⟨y, HY, hy⟩ := map_at (Value.int .i64) xs (k := k) (by have := HL.out; omega)
      have hcy := hs.at hy
      clear hy
      by_cases e : y = x
      · have e1 : (y == x) = true := by simpa using e
        have HM : Hid (decide (x ∈ xs) = true) := by unfold Hid; rw [decide_eq_true_eq, ← e]; exact getD_mem HY.out
        clear e
        go_wp2
        go_ret
        exact ⟨ret_bool HM.out.symm, rfl⟩
      · have e1 : (y == x) = false := by simpa using e
        have HM : Hid (x ∉ xs.take (k + 1)) := by
          have := HN.out
          unfold Hid
          rw [List.take_add_one, HY.out]
          simp only [Option.toList_some, List.mem_append, List.mem_singleton]
          rintro (h | h)
          · exact this h
          · exact e h.symm
        clear e
        go_wp2
        go_round
        case rel => exact ⟨k + 1, by omega, by go_num, HM⟩
        case measure => simp [intOf]; omega
    · go_wp2
      go_ret
      refine ⟨ret_bool ?_, rfl⟩
      have := HN.out
      rw [List.take_of_length_le (by have := HL.out; omega)] at this
      rw [decide_eq_false this]

end Go.Proofs.Ytcfkjigapnknnaa

/- Tag systems: ValidTag, tagFront, slices.Contains of the program. -/
namespace Go.Proofs.Ytcfkjigapnknnaa
open Go.RowKit
set_option linter.all false

theorem sizeWordsT_is (A : Option Addr) (n c : Nat) (w : World) : Calls Try.prog 126 #[.slice A n c] w fun e w' => e = .returned (.int .i64 n) ∧ w = w' := sizeWordsT_any A n c w

set_option maxRecDepth 100000 in
set_option maxHeartbeats 1000000 in
theorem implValidTag_is (d : Int) (bw ow nw cw : Nat) (us : List Value) (ws : List (List Int)) (bh oh nh ch : Nat) (hs : List Int) (v : Bool) (hv : validTag d ws hs = v) (w : World)
    (sw : Sl w bw ow us) (sr : Srcs 1 oneI w us ws) (lw : ws.length = nw) (hnw : nw ≤ 1048576) (hsum : sumLen ws ≤ 1048576) (sh : Sl w bh oh (hs.map (.int .i64))) (lh : hs.length = nh) (hnh : nh ≤ 1048576) :
    Calls Try.prog 71 #[.agg #[.int .i64 d, .slice (some ⟨bw, ow, none⟩) nw cw, .slice (some ⟨bh, oh, none⟩) nh ch]] w fun e w' => e = .returned (.bool v) ∧ Below w.heap.size w w' := by
  subst hv
  obtain ⟨w0, HW0, B0, x0⟩ := al1 w (.cells #[.int .i64 d, .slice (some ⟨bw, ow, none⟩) nw cw, .slice (some ⟨bh, oh, none⟩) nh ch] 61)
  have bx0 := box_held x0
  have HLW := Lib.hid lw
  have HLH := Lib.hid lh
  have HSUM := Lib.hid hsum
  clear lh hsum
  have sw0 := sw.below' B0
  have sr0 := sr.below B0
  have sh0 := sh.below' B0
  have l0 : w0.cell? ⟨w.heap.size, 0, none⟩ = some (.int .i64 d) := by rw [cell_of_heap x0]; rfl
  have l1 : w0.cell? ⟨w.heap.size, 1, none⟩ = some (.slice (some ⟨bw, ow, none⟩) nw cw) := by rw [cell_of_heap x0]; rfl
  have l2 : w0.cell? ⟨w.heap.size, 2, none⟩ = some (.slice (some ⟨bh, oh, none⟩) nh ch) := by rw [cell_of_heap x0]; rfl
  clear sw sr sh x0
  rcases Bool.eq_false_or_eq_true (inB d 1 4) with h1 | h1
  rotate_left
  · have H1 := Lib.hid h1
    have HV : Hid (validTag d ws hs = false) := by unfold Hid validTag; rw [h1]; rfl
    clear h1 lw
    go_enter Try.func71, Try.ntmps71
    go_wp2_with fail
    rw [← HW0.out]
    refine (sizeWordsT_is _ nw cw _).mono ?_
    rintro e w' ⟨rfl, rfl⟩
    go_wp2_with fail
    refine (within_is d 1 4 _ H1.out _).mono ?_
    rintro e w' ⟨rfl, rfl⟩
    go_wp2_with fail
    go_ret
    exact ⟨ret_bool (by rw [HV.out]), B0⟩
  rcases Bool.eq_false_or_eq_true (inB (nw : Int) 1 200) with h2 | h2
  rotate_left
  · have H1 := Lib.hid h1
    have H2 := Lib.hid h2
    have HV : Hid (validTag d ws hs = false) := by unfold Hid validTag; rw [lw, h1, h2]; rfl
    clear h1 h2 lw
    go_enter Try.func71, Try.ntmps71
    go_wp2_with fail
    rw [← HW0.out]
    refine (sizeWordsT_is _ nw cw _).mono ?_
    rintro e w' ⟨rfl, rfl⟩
    go_wp2_with fail
    refine (within_is d 1 4 _ H1.out _).mono ?_
    rintro e w' ⟨rfl, rfl⟩
    go_wp2_with fail
    refine (within_is (nw : Int) 1 200 _ H2.out _).mono ?_
    rintro e w' ⟨rfl, rfl⟩
    go_wp2_with fail
    go_ret
    exact ⟨ret_bool (by rw [HV.out]), B0⟩
  have wn : IntKind.i64.wrap ((nw : Int) - 1) = (nw : Int) - 1 := IntWalk.i64_in _ (by omega)
  rcases Bool.eq_false_or_eq_true (ws.all (overB nw)) with h3 | h3
  rotate_left
  · have H1 := Lib.hid h1
    have H2 := Lib.hid h2
    have H3 := Lib.hid h3
    have HV : Hid (validTag d ws hs = false) := by unfold Hid validTag; rw [lw, h1, h2, h3]; simp
    clear h1 h2 h3 lw
    go_enter Try.func71, Try.ntmps71
    go_wp2_with fail
    rw [← HW0.out]
    refine (sizeWordsT_is _ nw cw _).mono ?_
    rintro e w' ⟨rfl, rfl⟩
    go_wp2_with fail
    refine (within_is d 1 4 _ H1.out _).mono ?_
    rintro e w' ⟨rfl, rfl⟩
    go_wp2_with fail
    refine (within_is (nw : Int) 1 200 _ H2.out _).mono ?_
    rintro e w' ⟨rfl, rfl⟩
    go_wp2_with fail
    refine (wordsOk_is bw ow nw cw nw us ws _ H3.out _ sw0 sr0 HLW.out hnw HSUM.out hnw).mono ?_
    rintro e w1 ⟨rfl, b1⟩
    have B1 := below_step B0 b1
    go_wp2_with fail
    go_ret
    exact ⟨ret_bool (by rw [HV.out]), B1⟩
  rcases Bool.eq_false_or_eq_true (upB hs) with h4 | h4
  rotate_left
  · have H1 := Lib.hid h1
    have H2 := Lib.hid h2
    have H3 := Lib.hid h3
    have H4 := Lib.hid h4
    have HV : Hid (validTag d ws hs = false) := by unfold Hid validTag risesB; rw [lw, h1, h2, h3, h4]; simp
    clear h1 h2 h3 h4 lw
    go_enter Try.func71, Try.ntmps71
    go_wp2_with fail
    rw [← HW0.out]
    refine (sizeWordsT_is _ nw cw _).mono ?_
    rintro e w' ⟨rfl, rfl⟩
    go_wp2_with fail
    refine (within_is d 1 4 _ H1.out _).mono ?_
    rintro e w' ⟨rfl, rfl⟩
    go_wp2_with fail
    refine (within_is (nw : Int) 1 200 _ H2.out _).mono ?_
    rintro e w' ⟨rfl, rfl⟩
    go_wp2_with fail
    refine (wordsOk_is bw ow nw cw nw us ws _ H3.out _ sw0 sr0 HLW.out hnw HSUM.out hnw).mono ?_
    rintro e w1 ⟨rfl, b1⟩
    have B1 := below_step B0 b1
    have m2 := cell_step (by exact l2) b1
    have sh1 := sh0.below' b1
    go_wp2_with fail
    refine (rising_is bh oh nh ch hs _ H4.out _ sh1 HLH.out (by omega)).mono ?_
    rintro e w2 ⟨rfl, q, rfl⟩
    go_wp2_with fail
    go_ret
    exact ⟨ret_bool (by rw [HV.out]), below_drewN B1 q⟩
  obtain ⟨va, hva⟩ : ∃ va, hs.all (inB · 0 ((nw : Int) - 1)) = va := ⟨_, rfl⟩
  have H1 := Lib.hid h1
  have H2 := Lib.hid h2
  have H3 := Lib.hid h3
  have H4 := Lib.hid h4
  have H5 := Lib.hid hva
  have HV : Hid (validTag d ws hs = va) := by unfold Hid validTag risesB; rw [lw, h1, h2, h3, h4, hva]; simp
  clear h1 h2 h3 h4 lw hva
  go_enter Try.func71, Try.ntmps71
  go_wp2_with fail
  rw [← HW0.out]
  refine (sizeWordsT_is _ nw cw _).mono ?_
  rintro e w' ⟨rfl, rfl⟩
  go_wp2_with fail
  refine (within_is d 1 4 _ H1.out _).mono ?_
  rintro e w' ⟨rfl, rfl⟩
  go_wp2_with fail
  refine (within_is (nw : Int) 1 200 _ H2.out _).mono ?_
  rintro e w' ⟨rfl, rfl⟩
  go_wp2_with fail
  refine (wordsOk_is bw ow nw cw nw us ws _ H3.out _ sw0 sr0 HLW.out hnw HSUM.out hnw).mono ?_
  rintro e w1 ⟨rfl, b1⟩
  have B1 := below_step B0 b1
  have m2 := cell_step (by exact l2) b1
  have sh1 := sh0.below' b1
  go_wp2_with fail
  refine (rising_is bh oh nh ch hs _ H4.out _ sh1 HLH.out (by omega)).mono ?_
  rintro e w2 ⟨rfl, q, rfl⟩
  have k2 : (w1.drewN q).cell? ⟨w.heap.size, 2, none⟩ = some (.slice (some ⟨bh, oh, none⟩) nh ch) := m2
  have B2 := below_drewN B1 q
  have sh2 : Sl (w1.drewN q) bh oh (hs.map (.int .i64)) := sh1
  clear m2 sh1
  generalize w1.drewN q = w2 at *
  go_wp2_with fail
  refine (allWithin_is bh oh nh ch hs 0 ((nw : Int) - 1) _ H5.out _ sh2 HLH.out (by omega)).mono ?_
  rintro e w' ⟨rfl, rfl⟩
  go_wp2_with fail
  go_ret
  exact ⟨ret_bool (by rw [HV.out]), B2⟩

theorem tagFront_yes (f : Int) (A : Option Addr) (n c : Nat) (v2 : Value) (w : World) (hn : 2 * n ≤ 9) :
    Calls Try.prog 129 #[.agg #[.int .i64 f, .slice A n c, v2]] w fun e w' => e = .returned (.tuple #[.int .i64 n, .int .i64 (2 * (n : Int)), .int .i64 0]) ∧ Below w.heap.size w w' := by
  obtain ⟨w0, HW0, B0, x0⟩ := al1 w (.cells #[.int .i64 f, .slice A n c, v2] 61)
  have l1 : w0.cell? ⟨w.heap.size, 1, none⟩ = some (.slice A n c) := by rw [cell_of_heap x0]; rfl
  clear x0
  have wm : IntKind.i64.wrap (2 * (n : Int)) = 2 * (n : Int) := IntWalk.i64_in _ (by omega)
  go_enter Try.func129, Try.ntmps129
  go_wp2_with fail
  rw [← HW0.out]
  refine (sizeWordsT_is _ n c _).mono ?_
  rintro e w' ⟨rfl, rfl⟩
  go_wp2_with fail
  go_ret3
  exact ⟨rfl, B0⟩
theorem tagFront_no (f : Int) (A : Option Addr) (n c : Nat) (v2 : Value) (w : World) (hn : 9 < 2 * n) (h : n ≤ 1048576) :
    Calls Try.prog 129 #[.agg #[.int .i64 f, .slice A n c, v2]] w fun e w' => e = .returned (.tuple #[.int .i64 0, .int .i64 0, .int .i64 5]) ∧ Below w.heap.size w w' := by
  obtain ⟨w0, HW0, B0, x0⟩ := al1 w (.cells #[.int .i64 f, .slice A n c, v2] 61)
  have l1 : w0.cell? ⟨w.heap.size, 1, none⟩ = some (.slice A n c) := by rw [cell_of_heap x0]; rfl
  clear x0
  have wm : IntKind.i64.wrap (2 * (n : Int)) = 2 * (n : Int) := IntWalk.i64_in _ (by omega)
  go_enter Try.func129, Try.ntmps129
  go_wp2_with fail
  rw [← HW0.out]
  refine (sizeWordsT_is _ n c _).mono ?_
  rintro e w' ⟨rfl, rfl⟩
  go_wp2_with fail
  go_ret3
  exact ⟨rfl, B0⟩

set_option maxRecDepth 100000 in
theorem indexI_any (A : Option Addr) (n c : Nat) (xs : List Int) (x : Int) (w : World) (ha : Arg w A n (xs.map (Value.int .i64))) (hn : n ≤ 1048576) :
    Calls Try.prog 157 #[.slice A n c, .int .i64 x] w fun e w' => (∃ z : Int, e = .returned (.int .i64 z) ∧ decide (0 ≤ z) = decide (x ∈ xs)) ∧ w = w' := by
  have HL : Hid (xs.length = n) := by have := ha.1; simpa [Hid] using this
  go_enter Try.func157, Try.ntmps157
  go_wp2
  go_loop [8] (fun i => ∃ k : Nat, k ≤ n ∧ i = .int .i64 k ∧ Hid (x ∉ xs.take k)) (fun i => n - (intOf i).toNat)
  case atStart => exact ⟨0, Nat.zero_le _, rfl, by simp [Hid]⟩
  case round =>
    obtain ⟨k, hk, rfl, HN⟩ := hrel
    by_cases hlt : k < n
    · obtain ⟨b, off, rfl, hs⟩ := ha.sl hlt
      obtain ⟨y, HY, hy⟩ := map_at (Value.int .i64) xs (k := k) (by have := HL.out; omega)
      have hcy := hs.at hy
      clear hy
      by_cases e : x = y
      · have e1 : (x == y) = true := by simpa using e
        have HM : Hid (decide (x ∈ xs) = true) := by unfold Hid; rw [decide_eq_true_eq, e]; exact getD_mem HY.out
        clear e
        go_wp2
        go_ret
        exact ⟨⟨_, rfl, ⟨fun _ => of_decide_eq_true HM.out, fun _ => by omega⟩⟩, rfl⟩
      · have e1 : (x == y) = false := by simpa using e
        have HM : Hid (x ∉ xs.take (k + 1)) := by
          have := HN.out
          unfold Hid
          rw [List.take_add_one, HY.out]
          simp only [Option.toList_some, List.mem_append, List.mem_singleton]
          rintro (h | h)
          · exact this h
          · exact e h
        clear e
        go_wp2
        go_round
        case rel => exact ⟨k + 1, by omega, by go_num, HM⟩
        case measure => simp [intOf]; omega
    · go_wp2
      go_ret
      refine ⟨⟨_, rfl, ?_⟩, rfl⟩
      have := HN.out
      rw [List.take_of_length_le (by have := HL.out; omega)] at this
      exact ⟨fun h => by omega, fun h => absurd h this⟩
theorem containsI_is (A : Option Addr) (n c : Nat) (xs : List Int) (x : Int) (v : Bool) (hv : decide (x ∈ xs) = v) (w : World) (ha : Arg w A n (xs.map (Value.int .i64))) (hn : n ≤ 1048576) :
    Calls Try.prog 131 #[.slice A n c, .int .i64 x] w fun e w' => e = .returned (.bool v) ∧ w = w' := by
  subst hv
  go_enter Try.func131, Try.ntmps131
  go_wp2_with fail
  refine (indexI_any A n c xs x _ ha hn).mono ?_
  rintro e w' ⟨⟨z, rfl, hz⟩, rfl⟩
  have HZ := Lib.hid hz; clear hz
  go_wp2_with fail
  go_ret
  exact ⟨ret_bool (by rw [← HZ.out]), rfl⟩
end Go.Proofs.Ytcfkjigapnknnaa

/- A row of Markov rules of the call's own that grows. Plain lemmas. -/
namespace Go.Proofs.Ytcfkjigapnknnaa
open Go.RowKit
set_option linter.all false

/-- The rules so far: a row of the call's own, whose rules hold words of the call's own. -/
structure MkAcc (lo : Nat) (V : Value) (es : List EMarkovRule) (W : World) : Prop where
  own : W.ownsRow lo 117 3 V es.length (rows EMarkovRule.vs es)
  inn : Inn 1 2 lo W.heap.size (es.flatMap kndMarkovRule.us) (es.flatMap kndMarkovRule.its) W
theorem MkAcc.below {lo : Nat} {V : Value} {es : List EMarkovRule} {W W' : World} (h : MkAcc lo V es W) (hb : Below W.heap.size W W') : MkAcc lo V es W' :=
  ⟨own_below' h.own hb, (h.inn.below hb).wide hb.size⟩
theorem MkAcc.push {lo : Nat} {V V' : Value} {es : List EMarkovRule} {e : EMarkovRule} {W Wa Wb Wc W' : World} (h : MkAcc lo V es W) (hlo : lo ≤ W.heap.size)
    (ha : Below W.heap.size W Wa) (o0 : Wa.ownsRow W.heap.size 2 1 e.u0 e.d.f0.length (e.d.f0.map (Value.int .i64)))
    (hb : Below Wa.heap.size Wa Wb) (o1 : Wb.ownsRow Wa.heap.size 2 1 e.u1 e.d.f1.length (e.d.f1.map (Value.int .i64)))
    (hc : Below Wb.heap.size Wb Wc) (hg : Wc.grownBy W' V.ownBlock) (own' : W'.ownsRow lo 117 3 V' (es.length + 1) (rows EMarkovRule.vs es ++ EMarkovRule.vs e)) : MkAcc lo V' (es ++ [e]) W' := by
  refine ⟨?_, ?_⟩
  · rw [List.length_append, rows_app, rows_one]; exact own'
  · have i1 := (h.inn.below ha).snoc (it := (e.d.f0.length, e.d.f0.map (Value.int .i64))) (hi' := Wa.heap.size) o0 (Nat.le_refl _) hlo (Nat.le_refl _) ha.size
    have i2 := (i1.below hb).snoc (it := (e.d.f1.length, e.d.f1.map (Value.int .i64))) (hi' := Wb.heap.size) o1 (Nat.le_refl _) (Nat.le_trans hlo ha.size) (Nat.le_refl _) hb.size
    have i3 := i2.below hc
    have oc := own_below' (own_below' (own_below' h.own ha) hb) hc
    have i4 := i3.kept oc hg (by decide)
    have i5 := i4.wide (hi' := W'.heap.size) (Nat.le_trans hc.size hg.size)
    rw [List.append_assoc, List.append_assoc] at i5
    have e1 : [e].flatMap kndMarkovRule.its = [(e.d.f0.length, e.d.f0.map (Value.int .i64))] ++ [(e.d.f1.length, e.d.f1.map (Value.int .i64))] := by
      show [(e.d.f0.length, rows oneI e.d.f0), (e.d.f1.length, rows oneI e.d.f1)] = _
      rw [rows_oneI, rows_oneI]; rfl
    have e2 : [e].flatMap kndMarkovRule.us = [e.u0] ++ [e.u1] := rfl
    rw [List.flatMap_append, List.flatMap_append, e1, e2]
    exact i5
/-- The rules as a result. -/
theorem MkAcc.grid {lo : Nat} {V : Value} {es : List EMarkovRule} {W : World} (h : MkAcc lo V es W) : SGrid kndMarkovRule lo W.heap.size 117 2 1 V es W := by
  refine ⟨h.own, h.inn, fun k hk => (h.own.lt k hk).2⟩
end Go.Proofs.Ytcfkjigapnknnaa

/- Words of the call's own that have an address; steps on a nil word. Plain contracts, no conditions beyond the sizes. -/
namespace Go.Proofs.Ytcfkjigapnknnaa
open Go.RowKit
set_option linter.all false

theorem own_adr {w : World} {base : Nat} {e : TypeId} {size n : Nat} {v : Value} {xs : List Value} (h : w.ownsRow base e size v n xs) (hne : v ≠ .slice none 0 0) : ∃ g d, v = .slice (some ⟨g, 0, none⟩) n d ∧ n ≤ d := by
  rcases h.2 with ⟨h0, _⟩ | ⟨g, cap, cur, h0, _, _, h1, _⟩
  · exact absurd h0 hne
  · exact ⟨g, cap, h0, h1⟩
/-- What is owned is nil and empty, or has an address. -/
theorem own_cases {w : World} {base : Nat} {e : TypeId} {size n : Nat} {v : Value} {xs : List Value} (h : w.ownsRow base e size v n xs) : (v = .slice none 0 0 ∧ n = 0) ∨ ∃ g d, v = .slice (some ⟨g, 0, none⟩) n d ∧ n ≤ d := by
  rcases h.2 with ⟨h0, h1⟩ | ⟨g, cap, cur, h0, _, _, h1, _⟩
  · exact .inl ⟨h0, h1⟩
  · exact .inr ⟨g, cap, h0, h1⟩

set_option maxRecDepth 100000 in
theorem cloneA_any (b off n c : Nat) (xs : List Int) (w : World) (hs : Sl w b off (xs.map (Value.int .i64))) (hl : xs.length = n) (hn : n ≤ 1048576) :
    Calls Try.prog 90 #[.slice (some ⟨b, off, none⟩) n c] w fun e w' => ∃ g d, e = .returned (.slice (some ⟨g, 0, none⟩) n d) ∧ w'.ownsRow w.heap.size 2 1 (.slice (some ⟨g, 0, none⟩) n d) n (xs.map (Value.int .i64)) ∧ Below w.heap.size w w' ∧ n ≤ d := by
  have hown0 : (w.alloc (.cells #[] 2)).ownsRow w.heap.size 2 1 (.slice (some ⟨w.heap.size, 0, none⟩) 0 0) 0 [] := own_empty w 2 1
  have hB0 := laid_below w (.cells #[] 2)
  have hsrc1 : Src 1 (w.alloc (.cells #[] 2)) (.slice (some ⟨b, off, none⟩) n c) n (xs.map (.int .i64)) := Src.of_sl (hs.below' hB0) (by simp; omega)
  have HO := Lib.hid (one_ints .i64 xs)
  clear hs hl
  have hnl := run_nil_some Try.underlying25 ⟨b, off, none⟩ n c
  go_enter Try.func90, Try.ntmps90
  go_wp2_with (at_builtin; refine wpList_appx rfl _ _ _ rfl Try.underlying25 infoInt64S rfl (by omega) w.heap.size hown0 hB0.size rfl hsrc1 rfl HO.out (by unfold maxLen; omega) (by omega) ?_; intro v2 w2 hown2 hg2 hnil2; have hB2 := grown_below hB0 hown0 (Nat.le_refl _) hg2; obtain ⟨g2, d2, rfl, hd2⟩ := own_adr hown2 (fun e => by cases (hnil2 e).1); clear hnil2 hown0 hB0 hsrc1 hg2)
  go_ret
  have hown3 : w2.ownsRow w.heap.size 2 1 (.slice (some ⟨g2, 0, none⟩) n d2) n (xs.map (Value.int .i64)) := by simpa using hown2
  exact ⟨g2, d2, by first | rfl | rw [Nat.zero_add], hown3, hB2, by omega⟩

theorem l00OwnA_any (b off n c : Nat) (xs : List Int) (w : World) (hs : Sl w b off (xs.map (.int .i64))) (hl : xs.length = n) (hn : n ≤ 4194304) :
    Calls Try.prog 123 #[.slice (some ⟨b, off, none⟩) n c] w fun e w' => ∃ g d, e = .returned (.slice (some ⟨g, 0, none⟩) n d) ∧ w'.ownsRow w.heap.size 2 1 (.slice (some ⟨g, 0, none⟩) n d) n (xs.map (.int .i64)) ∧ Below w.heap.size w w' ∧ n ≤ d := by
  have HL := Lib.hid hl; clear hl
  have hown0 : (w.alloc (.cells #[] 2)).ownsRow w.heap.size 2 1 (.slice (some ⟨w.heap.size, 0, none⟩) 0 0) 0 [] := World.ownsRow_made w #[] 0 (by simp) (by simp [maxLen]) rfl
  have hB0 := laid_below w (.cells #[] 2)
  have hsrc : Src 1 (w.alloc (.cells #[] 2)) (.slice (some ⟨b, off, none⟩) n c) n (xs.map (.int .i64)) := Src.of_sl (hs.below' hB0) (by have := HL.out; simp; omega)
  go_enter Try.func123, Try.ntmps123
  go_wp2_with (at_builtin; refine wpList_appx rfl (.tmp 3) (.tmp 4) _ rfl Try.underlying25 infoInt64S rfl (by omega) w.heap.size hown0 hB0.size rfl hsrc rfl (one_ints _ _) (by unfold maxLen; omega) (by omega) ?_; intro v2 w2 hown2 hg2 hnil2; have hB2 := grown_below hB0 hown0 (Nat.le_refl _) hg2; obtain ⟨g2, d2, rfl, hd2⟩ := own_adr hown2 (fun e => by cases (hnil2 e).1); clear hnil2 hown0 hB0 hsrc hg2)
  go_ret
  have hown3 : w2.ownsRow w.heap.size 2 1 (.slice (some ⟨g2, 0, none⟩) n d2) n (xs.map (Value.int .i64)) := by simpa using hown2
  exact ⟨g2, d2, by first | rfl | rw [Nat.zero_add], hown3, hB2, by omega⟩

set_option maxRecDepth 100000 in
theorem l03PutA_any (b1 o1 n1 c1 : Nat) (x : List Int) (k m : Nat) (b2 o2 n2 c2 : Nat) (y : List Int) (w : World) (hs1 : Sl w b1 o1 (x.map (.int .i64))) (hl1 : x.length = n1) (hn1 : n1 ≤ 4194304) (hs2 : Sl w b2 o2 (y.map (.int .i64))) (hl2 : y.length = n2) (hn2 : n2 ≤ 4194304) (hk : k + m ≤ n1) (hc : n1 ≤ c1) :
    Calls Try.prog 147 #[.slice (some ⟨b1, o1, none⟩) n1 c1, .int .i64 k, .int .i64 m, .slice (some ⟨b2, o2, none⟩) n2 c2] w fun e w' => ∃ g d, e = .returned (.slice (some ⟨g, 0, none⟩) (n1 - m + n2) d) ∧
      w'.ownsRow w.heap.size 2 1 (.slice (some ⟨g, 0, none⟩) (n1 - m + n2) d) (n1 - m + n2) ((putL x k m y).map (.int .i64)) ∧ Below w.heap.size w w' ∧ n1 - m + n2 ≤ d := by
  have HL1 := Lib.hid hl1; have HL2 := Lib.hid hl2
  clear hl1 hl2
  go_enter Try.func147, Try.ntmps147
  go_wp2_with fail
  refine (l00OwnA_any b1 o1 k _ (x.take k) w (hs1.to k) (by have := HL1.out; simp; omega) (by omega)).mono ?_
  rintro e w1 ⟨g1, d1, rfl, hown1, hB1, -⟩
  have hsrc1 : Src 1 w1 (.slice (some ⟨b2, o2, none⟩) n2 c2) n2 (y.map (.int .i64)) := Src.of_sl (hs2.below' hB1) (by have := HL2.out; simp; omega)
  have hdrop := hs1.from (k + m)
  have HDL : Hid ((x.drop (k + m)).length = n1 - (k + m)) := by have := HL1.out; unfold Hid; simp; omega
  have hlast : ∀ (g3 d3 : Nat) (w3 : World), w3.ownsRow w.heap.size 2 1 (.slice (some ⟨g3, 0, none⟩) (k + n2 + (n1 - (k + m))) d3) (k + n2 + (n1 - (k + m))) (List.map (Value.int .i64) (x.take k) ++ y.map (.int .i64) ++ (x.drop (k + m)).map (.int .i64)) → k + n2 + (n1 - (k + m)) ≤ d3 →
      ∃ g d, Ending.returned (Value.slice (some ⟨g3, 0, none⟩) (k + n2 + (n1 - (k + m))) d3) = .returned (.slice (some ⟨g, 0, none⟩) (n1 - m + n2) d) ∧ w3.ownsRow w.heap.size 2 1 (.slice (some ⟨g, 0, none⟩) (n1 - m + n2) d) (n1 - m + n2) ((putL x k m y).map (.int .i64)) ∧ n1 - m + n2 ≤ d := by
    intro g3 d3 w3 h hd
    have e : k + n2 + (n1 - (k + m)) = n1 - m + n2 := by omega
    rw [e] at h hd ⊢
    refine ⟨g3, d3, rfl, ?_, hd⟩
    unfold putL
    rw [List.map_append, List.map_append]
    exact h
  have HLAST := Lib.hid hlast
  clear hlast
  by_cases hck : c1 = k + m
  · subst hck
    go_wp2_with (first
      | (at_builtin; refine wpList_appx rfl (.tmp 14) (.tmp 15) _ rfl Try.underlying25 infoInt64S rfl (by omega) w.heap.size hown1 hB1.size rfl hsrc1 rfl (one_ints _ _) (by unfold maxLen; omega) (by omega) ?_; intro v2 w2 hown2 hg2 hnil2; obtain ⟨g2, d2, rfl, hd2⟩ := own_adr hown2 (fun e => by cases (hnil2 e).1); have hB2 := grown_below hB1 hown1 (Nat.le_refl _) hg2; have hsrc2 : ∀ c, Src 1 w2 (.slice (some ⟨b1, o1, none⟩) (n1 - (k + m)) c) (n1 - (k + m)) ((x.drop (k + m)).map (.int .i64)) := (by intro c; have e : n1 - (k + m) = 0 := (by omega); have e2 : x.drop (k + m) = [] := List.drop_of_length_le (by have := HL1.out; omega); rw [e, e2]; exact Src.of_sl (Sl.empty (hs1.below' hB2).1) rfl); clear hnil2 hown1 hB1 hsrc1 hg2 hd2)
      | (at_builtin; refine wpList_appx rfl (.tmp 17) (.tmp 22) _ rfl Try.underlying25 infoInt64S rfl (by omega) w.heap.size hown2 hB2.size rfl (hsrc2 _) rfl (one_ints _ _) (by unfold maxLen; omega) (by omega) ?_; intro v3 w3 hown3 hg3 hnil3; obtain ⟨g3, d3, rfl, hd3⟩ := own_adr hown3 (fun e => by cases (hnil3 e).1); have hB3 := grown_below hB2 hown2 (Nat.le_refl _) hg3; clear hnil3 hown2 hB2 hsrc2 hg3))
    go_ret
    obtain ⟨g, d, h1, h2, h3⟩ := HLAST.out _ _ _ hown3 hd3
    have e0 : k + n2 + (n1 - (k + m)) = k + n2 := by omega
    rw [e0] at h1
    exact ⟨g, d, h1, h2, hB3, h3⟩
  · have hc2 : k + m < c1 := by omega
    go_wp2_with (first
      | (at_builtin; refine wpList_appx rfl (.tmp 14) (.tmp 15) _ rfl Try.underlying25 infoInt64S rfl (by omega) w.heap.size hown1 hB1.size rfl hsrc1 rfl (one_ints _ _) (by unfold maxLen; omega) (by omega) ?_; intro v2 w2 hown2 hg2 hnil2; obtain ⟨g2, d2, rfl, hd2⟩ := own_adr hown2 (fun e => by cases (hnil2 e).1); have hB2 := grown_below hB1 hown1 (Nat.le_refl _) hg2; have hsrc2 : ∀ c, Src 1 w2 (.slice (some ⟨b1, o1 + (k + m), none⟩) (n1 - (k + m)) c) (n1 - (k + m)) ((x.drop (k + m)).map (.int .i64)) := (by intro c; exact Src.of_sl (hdrop.below' hB2) (by have := HDL.out; simp at this ⊢; omega)); clear hnil2 hown1 hB1 hsrc1 hg2 hd2)
      | (at_builtin; refine wpList_appx rfl (.tmp 17) (.tmp 22) _ rfl Try.underlying25 infoInt64S rfl (by omega) w.heap.size hown2 hB2.size rfl (hsrc2 _) rfl (one_ints _ _) (by unfold maxLen; omega) (by omega) ?_; intro v3 w3 hown3 hg3 hnil3; obtain ⟨g3, d3, rfl, hd3⟩ := own_adr hown3 (fun e => by cases (hnil3 e).1); have hB3 := grown_below hB2 hown2 (Nat.le_refl _) hg3; clear hnil3 hown2 hB2 hsrc2 hg3))
    go_ret
    obtain ⟨g, d, h1, h2, h3⟩ := HLAST.out _ _ _ hown3 hd3
    exact ⟨g, d, h1, h2, hB3, h3⟩

set_option maxRecDepth 100000 in
theorem begins_nil (b2 o2 m c2 : Nat) (w : World) (hm : m ≤ 4194304) (v : Bool) (hv : decide (m = 0) = v) :
    Calls Try.prog 149 #[.slice none 0 0, .slice (some ⟨b2, o2, none⟩) m c2] w fun e w' => e = .returned (.bool v) ∧ ∃ q, w' = w.drewN q := by
  by_cases h0 : m = 0
  · subst h0
    have HV := Lib.hid hv; clear hv
    have heq : Calls Try.prog 174 #[.slice none 0 0, .slice (some ⟨b2, o2, none⟩) 0 c2] w fun e w' => e = .returned (.bool true) ∧ ∃ q, w' = w.drewN q := by
      go_enter Try.func174, Try.ntmps174
      go_wp2
      go_loopw [5, 13] (fun _ i wr => i = .int .i64 0 ∧ wr = w) (fun _ _ _ => 0)
      case atStart => exact ⟨rfl, rfl⟩
      case round =>
        obtain ⟨rfl, rfl⟩ := hrel
        go_wp2
        go_ret
        exact ⟨rfl, 0, rfl⟩
    have HEQ := Lib.hid heq; clear heq
    go_enter Try.func149, Try.ntmps149
    go_wp2_with fail
    refine HEQ.out.mono ?_
    rintro e w' ⟨rfl, q, rfl⟩
    go_wp2_with fail
    go_ret
    exact ⟨ret_bool (by rw [← HV.out]; rfl), q, rfl⟩
  · have HV : Hid (false = v) := by unfold Hid; rw [← hv, decide_eq_false h0]
    clear hv
    go_enter Try.func149, Try.ntmps149
    go_wp2_with fail
    go_ret
    exact ⟨ret_bool HV.out, 0, rfl⟩

set_option maxRecDepth 100000 in
theorem replaced_nilK (k m n1 : Nat) (b2 o2 n2 c2 : Nat) (y : List Int) (w : World) (hs2 : Sl w b2 o2 (y.map (.int .i64))) (hl2 : y.length = n2) (hn2 : n2 ≤ 1048576) (hk0 : Hid (k = 0)) (hm0 : Hid (m = 0)) (hk : k + m ≤ n1) (hc : n1 ≤ k + m) (hn1 : n1 ≤ 1048576) :
    Calls Try.prog 120 #[.slice none n1 (k + m), .int .i64 k, .int .i64 m, .slice (some ⟨b2, o2, none⟩) n2 c2] w fun e w' => ∃ v, e = .returned v ∧
      w'.ownsRow w.heap.size 2 1 v n2 (y.map (.int .i64)) ∧ Below w.heap.size w w' := by
  have HL2 := Lib.hid hl2
  clear hl2
  have i1 : (k : Int) ≤ ((k + m : Nat) : Int) := by omega
  have i2 : (k : Int) + (m : Int) ≤ (n1 : Int) := by omega
  have i3 : IntKind.i64.wrap ((k : Int) + (m : Int)) = (k : Int) + (m : Int) := IntWalk.i64_in _ (by omega)
  have i4 : 0 ≤ (k : Int) + (m : Int) := by omega
  have i5 : 0 ≤ (k : Int) := by omega
  have i6 : ((k : Int) + (m : Int)).toNat = k + m := by omega
  have i8 : (k : Int) ≤ (k : Int) + (m : Int) := by omega
  have HZ : Hid (n1 - (k + m) = 0) := by unfold Hid; omega
  have HN1 : Hid (n1 = 0) := by have := hk0.out; have := hm0.out; unfold Hid; omega
  have hs2' : Sl w.drew b2 o2 (y.map (.int .i64)) := hs2
  have hBd : Below w.heap.size w w.drew := (Below.refl _ _).drew
  go_enter Try.func120, Try.ntmps120
  go_wp2_with fail
  go_still_tail 9, (by kernel_rfl)
  change wpList _ _ _ _ _ w.drew
  generalize w.drew = wd at *
  go_wp2_with fail
  have e1 := hk0.out
  have e2 := hm0.out
  have e3 := HN1.out
  subst e1; subst e2; subst e3
  refine (joined3_any wd.heap.size 0 [.slice none 0 0, .slice (some ⟨b2, o2, none⟩) n2 c2, .slice none 0 0] [0, n2, 0] [[], y.map (.int .i64), []] _ (sl_laid wd #[.slice none 0 0, .slice (some ⟨b2, o2, none⟩) n2 c2, .slice none 0 0] 25) ?_ (by simp; omega) (by simp)).mono ?_
  · refine ⟨rfl, rfl, fun j v n xs h1 h2 h3 => ?_⟩
    match j, h1, h2, h3 with
    | 0, h1, h2, h3 => simp only [List.getElem?_cons_zero, List.getElem?_cons_succ, Option.some.injEq] at h1 h2 h3; subst h1; subst h2; subst h3; exact ⟨⟨rfl, .inl ⟨rfl, rfl⟩⟩, by simp⟩
    | 1, h1, h2, h3 => simp only [List.getElem?_cons_zero, List.getElem?_cons_succ, Option.some.injEq] at h1 h2 h3; subst h1; subst h2; subst h3; exact ⟨Src.of_sl (hs2'.below' (laid_below wd _)) (by have := HL2.out; simp; omega), one_ints _ _⟩
    | 2, h1, h2, h3 => simp only [List.getElem?_cons_zero, List.getElem?_cons_succ, Option.some.injEq] at h1 h2 h3; subst h1; subst h2; subst h3; exact ⟨⟨rfl, .inl ⟨rfl, rfl⟩⟩, by simp⟩
  rintro e w4 ⟨v, rfl, hown, hB4⟩
  have hB5 := below_step (below_step hBd (laid_below wd _)) hB4
  have hown2 : w4.ownsRow w.heap.size 2 1 v n2 (y.map (.int .i64)) := by
    have h1 : w4.ownsRow w.heap.size 2 1 v [0, n2, 0].sum [[], y.map (Value.int .i64), []].flatten := own_base hown (by have := (laid_below wd _ : Below wd.heap.size wd (wd.alloc (.cells #[.slice none 0 0, .slice (some ⟨b2, o2, none⟩) n2 c2, .slice none 0 0] 25))).size; have := hBd.size; simp at this ⊢; omega)
    simpa using h1
  clear hown hB4
  go_wp2_with fail
  go_ret
  exact ⟨v, rfl, hown2, hB5⟩
theorem replaced_nil (b2 o2 n2 c2 : Nat) (y : List Int) (w : World) (hs2 : Sl w b2 o2 (y.map (.int .i64))) (hl2 : y.length = n2) (hn2 : n2 ≤ 1048576) :
    Calls Try.prog 120 #[.slice none 0 0, .int .i64 0, .int .i64 0, .slice (some ⟨b2, o2, none⟩) n2 c2] w fun e w' => ∃ v, e = .returned v ∧
      w'.ownsRow w.heap.size 2 1 v n2 (y.map (.int .i64)) ∧ Below w.heap.size w w' :=
  replaced_nilK 0 0 0 b2 o2 n2 c2 y w hs2 hl2 hn2 rfl rfl (Nat.le_refl _) (Nat.le_refl _) (by omega)
end Go.Proofs.Ytcfkjigapnknnaa
