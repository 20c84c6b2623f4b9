/- Valid rewriting rules and Markov rules: the reference's and the program's tests. -/
import Derived.Test.YtjakgeblmkdbpaaRwPlain
import Derived.Test.YtjakgeblmkdbpaaAreWords
import Derived.Test.YtjakgeblmkdbpaaSeq
namespace Go.Proofs.Ytjakgeblmkdbpaa
open Go.RowKit
set_option linter.all false

theorem all_step {α : Type} {p : α → Bool} {xs : List α} {k : Nat} {x : α} (HR : ∀ j y, j < k → xs[j]? = some y → p y = true) (hx : xs[k]? = some x) (hp : p x = true) : ∀ j y, j < k + 1 → xs[j]? = some y → p y = true := by
  intro j y hj hy
  by_cases ej : j = k
  · subst ej; rw [hx] at hy; injection hy with hy; subst hy; exact hp
  · exact HR j y (by omega) hy
theorem allNo {α : Type} {p : α → Bool} {xs : List α} {k : Nat} {x : α} (hx : xs[k]? = some x) (h : p x = false) : xs.all p = false := by
  rw [Bool.eq_false_iff]; intro ha
  have := List.all_eq_true.1 ha x (List.mem_of_getElem? hx)
  rw [h] at this; cases this
theorem all_end {α : Type} {p : α → Bool} {xs : List α} {k : Nat} (HR : ∀ j y, j < k → xs[j]? = some y → p y = true) (hk : xs.length ≤ k) : xs.all p = true := by
  rw [List.all_eq_true]
  intro x hx
  obtain ⟨j, hj⟩ := List.getElem?_of_mem hx
  exact HR j x (by have := (List.getElem?_eq_some_iff.1 hj).1; omega) hj

set_option maxRecDepth 100000 in
set_option maxHeartbeats 1000000 in
theorem l10Is_is (b off n c : Nat) (es : List ERewrite) (xs : List DRewrite) (v : Bool) (hv : validRws xs = v) (w : World) (hs : Sl w b off (rows ERewrite.vs es)) (hr : RcsRewrite w es) (hd : es.map (·.d) = xs) (hl : xs.length = n) (hn : n ≤ 1048576) (ht : sumRewrite xs ≤ 1048576) :
    Calls Try.prog 58 #[.slice (some ⟨b, off, none⟩) n c] w fun e w' => e = .returned (.bool v) ∧ w = w' := by
  have HL := Lib.hid hl; have HD := Lib.hid hd; have HT := Lib.hid ht
  have HE : Hid (es.length = n) := by unfold Hid; rw [← hl, ← hd, List.length_map]
  have HV : Hid ((inB (n : Int) 1 60 && xs.all okRw) = v) := by unfold Hid; rw [← hv, ← hl]; rfl
  clear hl hd hv ht
  by_cases h1 : n < 1
  · have HF : Hid (false = v) := by have := HV.out; rw [(inB_false _ _ _).2 (by omega)] at this; exact this
    go_enter Try.func58, Try.ntmps58
    go_wp2_with fail
    go_ret
    exact ⟨ret_bool HF.out, rfl⟩
  by_cases h2 : 60 < n
  · have HF : Hid (false = v) := by have := HV.out; rw [(inB_false _ _ _).2 (by omega)] at this; exact this
    go_enter Try.func58, Try.ntmps58
    go_wp2_with fail
    go_ret
    exact ⟨ret_bool HF.out, rfl⟩
  have HA : Hid (xs.all okRw = v) := by have := HV.out; rw [(inB_iff _ _ _).2 (by omega), Bool.true_and] at this; exact this
  go_enter Try.func58, Try.ntmps58
  go_wp2_with fail
  go_loop [3] (fun i => ∃ k : Nat, k ≤ n ∧ i = .int .i64 k ∧ Hid (∀ j x, j < k → xs[j]? = some x → okRw x = true)) (fun i => n - (intOf i).toNat)
  case atStart => exact ⟨0, Nat.zero_le _, rfl, by intro j x hj; omega⟩
  case round =>
    obtain ⟨k, hk, rfl, HR⟩ := hrel
    by_cases hlt : k < n
    rotate_left
    · have HF : Hid (true = v) := by have := HA.out; rw [all_end HR.out (by have := HL.out; omega)] at this; exact this
      go_wp2_with fail
      go_ret
      exact ⟨ret_bool HF.out, rfl⟩
    obtain ⟨e, HX⟩ := hget HE hlt
    have HXD : Hid (xs[k]? = some e.d) := by unfold Hid; rw [← HD.out, List.getElem?_map, HX.out]; rfl
    have hwl : wlRewrite e.d ≤ 1048576 := Nat.le_trans (sumRewrite_at HXD.out) HT.out
    obtain ⟨⟨g0, eu0, s0⟩, ⟨g1, eu1, s1⟩, -⟩ := hr.at (List.mem_of_getElem? HX.out)
    have p0 : w.cell? ⟨b, off + k * 2, none⟩ = some e.u0 := Sl.rec (f := ERewrite.vs) (s := 2) (fun _ => rfl) hs HX.out (j := 0) rfl
    have p1 : w.cell? ⟨b, off + k * 2 + 1, none⟩ = some e.u1 := Sl.rec (f := ERewrite.vs) (s := 2) (fun _ => rfl) hs HX.out (j := 1) rfl
    rw [eu0] at p0
    rw [eu1] at p1
    clear eu0 eu1
    obtain ⟨⟨f0, f1⟩, u0, u1⟩ := e
    dsimp only at p0 p1 s0 s1 hwl HXD
    simp only [wlRewrite] at hwl
    obtain ⟨m0, hm0⟩ : ∃ q, q = f0.length := ⟨_, rfl⟩
    obtain ⟨m1, hm1⟩ : ∃ q, q = f1.length := ⟨_, rfl⟩
    rw [← hm0] at p0 hwl
    rw [← hm1] at p1 hwl
    have HM0 := Lib.hid hm0.symm
    have HM1 := Lib.hid hm1.symm
    clear hm0 hm1
    clear hs hr
    obtain ⟨v0, hv0⟩ : ∃ u, isWordB f0 = u := ⟨_, rfl⟩
    have HV0 := Lib.hid hv0; clear hv0
    obtain ⟨v1, hv1⟩ : ∃ u, isWordB f1 = u := ⟨_, rfl⟩
    have HV1 := Lib.hid hv1; clear hv1
    have hno : okRw ⟨f0, f1⟩ = false → Hid (false = v) := by
      intro h; have := HA.out; rw [allNo (p := okRw) HXD.out h] at this; exact this
    have HNO := Lib.hid hno; clear hno
    cases v0
    · have HF := HNO.out (by unfold okRw; rw [HV0.out]; simp)
      go_wp2_with fail
      refine (l03Is_is g0 0 m0 m0 f0 false HV0.out _ s0 HM0.out (by omega)).mono ?_
      rintro e w' ⟨rfl, rfl⟩
      go_wp2_with fail
      go_ret
      exact ⟨ret_bool HF.out, rfl⟩
    cases v1
    · have HF := HNO.out (by unfold okRw; rw [HV1.out]; simp)
      go_wp2_with fail
      refine (l03Is_is g0 0 m0 m0 f0 true HV0.out _ s0 HM0.out (by omega)).mono ?_
      rintro e w' ⟨rfl, rfl⟩
      go_wp2_with fail
      refine (l03Is_is g1 0 m1 m1 f1 false HV1.out _ s1 HM1.out (by omega)).mono ?_
      rintro e w' ⟨rfl, rfl⟩
      go_wp2_with fail
      go_ret
      exact ⟨ret_bool HF.out, rfl⟩
    by_cases hz : m0 = 0
    · subst hz
      have HF := HNO.out (by unfold okRw; rw [HM0.out]; simp)
      go_wp2_with fail
      refine (l03Is_is g0 0 0 0 f0 true HV0.out _ s0 HM0.out (by omega)).mono ?_
      rintro e w' ⟨rfl, rfl⟩
      go_wp2_with fail
      refine (l03Is_is g1 0 m1 m1 f1 true HV1.out _ s1 HM1.out (by omega)).mono ?_
      rintro e w' ⟨rfl, rfl⟩
      go_wp2_with fail
      go_ret
      exact ⟨ret_bool HF.out, rfl⟩
    have HOK : Hid (okRw ⟨f0, f1⟩ = true) := by unfold Hid; unfold okRw; rw [HV0.out, HV1.out, HM0.out, decide_eq_false hz]; rfl
    go_wp2_with fail
    refine (l03Is_is g0 0 m0 m0 f0 true HV0.out _ s0 HM0.out (by omega)).mono ?_
    rintro e w' ⟨rfl, rfl⟩
    go_wp2_with fail
    refine (l03Is_is g1 0 m1 m1 f1 true HV1.out _ s1 HM1.out (by omega)).mono ?_
    rintro e w' ⟨rfl, rfl⟩
    go_wp2_with fail
    go_round
    case rel => exact ⟨k + 1, by omega, by go_num, all_step HR.out HXD.out HOK.out⟩
    case measure => simp [intOf]; omega

set_option maxRecDepth 100000 in
set_option maxHeartbeats 1000000 in
theorem notRewrite_is (g0 g1 m0 m1 : Nat) (f0 f1 : List Int) (v : Bool) (hv : okRw ⟨f0, f1⟩ = v) (w : World) (s0 : Sl w g0 0 (f0.map (.int .i64))) (s1 : Sl w g1 0 (f1.map (.int .i64))) (h0 : f0.length = m0) (h1 : f1.length = m1) (hb : m0 + m1 ≤ 1048576) :
    Calls Try.prog 108 #[.agg #[.slice (some ⟨g0, 0, none⟩) m0 m0, .slice (some ⟨g1, 0, none⟩) m1 m1]] w fun e w' => e = .returned (.bool (!v)) ∧ Below w.heap.size w w' := by
  have HM0 := Lib.hid h0; have HM1 := Lib.hid h1; have HV := Lib.hid hv
  clear h0 h1 hv
  obtain ⟨w0, HW0, B0, x0, y0⟩ := al2 w (.cells #[.slice (some ⟨g0, 0, none⟩) m0 m0, .slice (some ⟨g1, 0, none⟩) m1 m1] 96) (.cells #[.slice (some ⟨g0, 0, none⟩) m0 m0, .slice (some ⟨g1, 0, none⟩) m1 m1] 25)
  have hsl : Sl w0 (w.heap.size + 1) 0 [.slice (some ⟨g0, 0, none⟩) m0 m0, .slice (some ⟨g1, 0, none⟩) m1 m1] := by
    refine ⟨heap_lt y0, fun j u hu => ?_⟩
    rw [cell_of_heap y0]; simpa using hu
  have htr : Wds w0 [.slice (some ⟨g0, 0, none⟩) m0 m0, .slice (some ⟨g1, 0, none⟩) m1 m1] [f0, f1] := by
    refine ⟨rfl, fun j v t h1 h2 => ?_⟩
    match j, h1, h2 with
    | 0, h1, h2 => simp only [List.getElem?_cons_zero, List.getElem?_cons_succ, Option.some.injEq] at h1 h2; subst h1; subst h2; exact ⟨g0, 0, m0, by rw [HM0.out], s0.below' B0, by have := HM0.out; omega⟩
    | 1, h1, h2 => simp only [List.getElem?_cons_zero, List.getElem?_cons_succ, Option.some.injEq] at h1 h2; subst h1; subst h2; exact ⟨g1, 0, m1, by rw [HM1.out], s1.below' B0, by have := HM1.out; omega⟩
  have k0 : w0.cell? ⟨w.heap.size, 0, none⟩ = some (.slice (some ⟨g0, 0, none⟩) m0 m0) := by rw [cell_of_heap x0]; rfl
  have k1 : w0.cell? ⟨w.heap.size, 1, none⟩ = some (.slice (some ⟨g1, 0, none⟩) m1 m1) := by rw [cell_of_heap x0]; rfl
  clear x0 y0 s0 s1
  obtain ⟨vw, hvw⟩ : ∃ u, [f0, f1].all isWordB = u := ⟨_, rfl⟩
  have HVW := Lib.hid hvw; clear hvw
  have HALL : Hid ((isWordB f0 && isWordB f1) = vw) := by unfold Hid; have := HVW.out; simpa using this
  cases vw
  · have HF : Hid (true = !v) := by unfold Hid; rw [← HV.out]; unfold okRw; rw [← Bool.and_assoc, HALL.out]; rfl
    go_enter Try.func108, Try.ntmps108
    go_wp2_with fail
    rw [← HW0.out]
    refine (areWords_is (w.heap.size + 1) 0 2 2 _ [f0, f1] false HVW.out _ hsl htr rfl (by omega)).mono ?_
    rintro e w' ⟨rfl, rfl⟩
    go_wp2_with fail
    go_ret
    exact ⟨ret_bool HF.out, B0⟩
  by_cases hz : m0 = 0
  · subst hz
    have HF : Hid (true = !v) := by unfold Hid; rw [← HV.out]; unfold okRw; rw [HM0.out]; simp
    go_enter Try.func108, Try.ntmps108
    go_wp2_with fail
    rw [← HW0.out]
    refine (areWords_is (w.heap.size + 1) 0 2 2 _ [f0, f1] true HVW.out _ hsl htr rfl (by omega)).mono ?_
    rintro e w' ⟨rfl, rfl⟩
    go_wp2_with fail
    go_ret
    exact ⟨ret_bool HF.out, B0⟩
  have HF : Hid (false = !v) := by unfold Hid; rw [← HV.out]; unfold okRw; rw [← Bool.and_assoc, HALL.out, HM0.out, decide_eq_false hz]; rfl
  go_enter Try.func108, Try.ntmps108
  go_wp2_with fail
  rw [← HW0.out]
  refine (areWords_is (w.heap.size + 1) 0 2 2 _ [f0, f1] true HVW.out _ hsl htr rfl (by omega)).mono ?_
  rintro e w' ⟨rfl, rfl⟩
  go_wp2_with fail
  go_ret
  exact ⟨ret_bool (by first | exact HF.out | (rw [← HF.out]; simp; omega)), B0⟩

set_option maxRecDepth 100000 in
set_option maxHeartbeats 1000000 in
theorem indexNotRewrite_any (b off n c : Nat) (es : List ERewrite) (xs : List DRewrite) (w : World) (hs : Sl w b off (rows ERewrite.vs es)) (hr : RcsRewrite w es) (hd : es.map (·.d) = xs) (hl : xs.length = n) (hn : n ≤ 1048576) (ht : sumRewrite xs ≤ 1048576) :
    Calls Try.prog 159 #[.slice (some ⟨b, off, none⟩) n c, .func (.func 108) #[] #[]] w fun e w' => (∃ z : Int, e = .returned (.int .i64 z) ∧ (decide (0 ≤ z) = !(xs.all okRw))) ∧ Below w.heap.size w w' := by
  have HL := Lib.hid hl; have HD := Lib.hid hd; have HT := Lib.hid ht
  have HE : Hid (es.length = n) := by unfold Hid; rw [← hl, ← hd, List.length_map]
  clear hl hd ht
  go_enter Try.func159, Try.ntmps159
  go_wp2_with fail
  go_loopw [8] (fun i wr => ∃ k : Nat, k ≤ n ∧ i = .int .i64 k ∧ Below w.heap.size w wr ∧ Hid (∀ j x, j < k → xs[j]? = some x → okRw x = true)) (fun i _ => n - (intOf i).toNat)
  case atStart => exact ⟨0, Nat.zero_le _, rfl, Below.refl _ _, by intro j x hj; omega⟩
  case round =>
    obtain ⟨k, hk, rfl, hB, HR⟩ := hrel
    by_cases hlt : k < n
    · obtain ⟨e, HX⟩ := hget HE hlt
      have HXD : Hid (xs[k]? = some e.d) := by unfold Hid; rw [← HD.out, List.getElem?_map, HX.out]; rfl
      have hwl : wlRewrite e.d ≤ 1048576 := Nat.le_trans (sumRewrite_at HXD.out) HT.out
      obtain ⟨⟨g0, eu0, s0⟩, ⟨g1, eu1, s1⟩, -⟩ := (hr.below hB).at (List.mem_of_getElem? HX.out)
      have p0 : wr.cell? ⟨b, off + k * 2, none⟩ = some e.u0 := Sl.rec (f := ERewrite.vs) (s := 2) (fun _ => rfl) (hs.below' hB) HX.out (j := 0) rfl
      have p1 : wr.cell? ⟨b, off + k * 2 + 1, none⟩ = some e.u1 := Sl.rec (f := ERewrite.vs) (s := 2) (fun _ => rfl) (hs.below' hB) HX.out (j := 1) rfl
      rw [eu0] at p0
      rw [eu1] at p1
      clear eu0 eu1
      obtain ⟨⟨f0, f1⟩, u0, u1⟩ := e
      dsimp only at p0 p1 s0 s1 hwl HXD
      simp only [wlRewrite] at hwl
      obtain ⟨m0, hm0⟩ : ∃ q, q = f0.length := ⟨_, rfl⟩
      obtain ⟨m1, hm1⟩ : ∃ q, q = f1.length := ⟨_, rfl⟩
      rw [← hm0] at p0 hwl
      rw [← hm1] at p1 hwl
      have HM0 := Lib.hid hm0.symm
      have HM1 := Lib.hid hm1.symm
      clear hm0 hm1
      clear hs hr
      rcases Bool.eq_false_or_eq_true (okRw ⟨f0, f1⟩) with hv | hv
      · have HV := Lib.hid hv; clear hv
        go_wp2_with fail
        refine (notRewrite_is g0 g1 m0 m1 f0 f1 true HV.out _ s0 s1 HM0.out HM1.out (by omega)).mono ?_
        rintro e w1 ⟨rfl, b1⟩
        have hB1 := below_step hB b1
        clear b1 p0 p1 s0 s1
        go_wp2
        go_roundw
        case rel => exact ⟨k + 1, by omega, by go_num, hB1, all_step HR.out HXD.out HV.out⟩
        case measure => simp [intOf]; omega
      · have HV := Lib.hid hv; clear hv
        go_wp2_with fail
        refine (notRewrite_is g0 g1 m0 m1 f0 f1 false HV.out _ s0 s1 HM0.out HM1.out (by omega)).mono ?_
        rintro e w1 ⟨rfl, b1⟩
        have hB1 := below_step hB b1
        clear b1 p0 p1 s0 s1
        go_wp2
        go_ret
        refine ⟨⟨_, rfl, ?_⟩, hB1⟩
        rw [allNo (p := okRw) HXD.out HV.out]; simp
    · go_wp2
      go_ret
      refine ⟨⟨_, rfl, ?_⟩, hB⟩
      rw [all_end HR.out (by have := HL.out; omega)]; rfl

set_option maxRecDepth 100000 in
set_option maxHeartbeats 1000000 in
theorem implValidRewrites_is (b off n c : Nat) (es : List ERewrite) (xs : List DRewrite) (v : Bool) (hv : validRws xs = v) (w : World) (hs : Sl w b off (rows ERewrite.vs es)) (hr : RcsRewrite w es) (hd : es.map (·.d) = xs) (hl : xs.length = n) (hn : n ≤ 1048576) (ht : sumRewrite xs ≤ 1048576) :
    Calls Try.prog 62 #[.slice (some ⟨b, off, none⟩) n c] w fun e w' => e = .returned (.bool v) ∧ Below w.heap.size w w' := by
  have HV : Hid ((inB (n : Int) 1 60 && xs.all okRw) = v) := by unfold Hid; rw [← hv, ← hl]; rfl
  clear hv
  obtain ⟨vb, hvb⟩ : ∃ u, inB (n : Int) 1 60 = u := ⟨_, rfl⟩
  have HVB := Lib.hid hvb; clear hvb
  have hsz : ∀ W, Calls Try.prog 106 #[.slice (some ⟨b, off, none⟩) n c] W fun e w' => e = .returned (.int .i64 n) ∧ W = w' := by
    intro W
    go_enter Try.func106, Try.ntmps106
    go_wp2
    go_ret
    exact ⟨rfl, rfl⟩
  have HSZ := Lib.hid hsz; clear hsz
  obtain ⟨va, hva⟩ : ∃ u, xs.all okRw = u := ⟨_, rfl⟩
  have hcon : Calls Try.prog 107 #[.slice (some ⟨b, off, none⟩) n c, .func (.func 108) #[] #[]] w fun e w' => e = .returned (.bool (!va)) ∧ Below w.heap.size w w' := by
    go_enter Try.func107, Try.ntmps107
    go_wp2_with fail
    refine (indexNotRewrite_any b off n c es xs w hs hr hd hl hn ht).mono ?_
    rintro e w1 ⟨⟨z, rfl, hz⟩, b1⟩
    rw [hva] at hz
    go_wp2_with fail
    go_ret
    exact ⟨ret_bool (by first | exact hz | simpa using hz), b1⟩
  have HVA := Lib.hid hva
  have HCON := Lib.hid hcon
  clear hva hcon hs hr hd hl ht
  cases vb
  · have HF : Hid (false = v) := by have := HV.out; rw [HVB.out] at this; exact this
    go_enter Try.func62, Try.ntmps62
    go_wp2_with fail
    refine (HSZ.out _).mono ?_
    rintro e w' ⟨rfl, rfl⟩
    go_wp2_with fail
    refine (within_is n 1 60 false HVB.out _).mono ?_
    rintro e w' ⟨rfl, rfl⟩
    go_wp2_with fail
    go_ret
    exact ⟨ret_bool HF.out, Below.refl _ _⟩
  · have HF : Hid (va = v) := by have := HV.out; rw [HVB.out, HVA.out] at this; exact this
    go_enter Try.func62, Try.ntmps62
    go_wp2_with fail
    refine (HSZ.out _).mono ?_
    rintro e w' ⟨rfl, rfl⟩
    go_wp2_with fail
    refine (within_is n 1 60 true HVB.out _).mono ?_
    rintro e w' ⟨rfl, rfl⟩
    go_wp2_with fail
    refine HCON.out.mono ?_
    rintro e w1 ⟨rfl, b1⟩
    go_wp2_with fail
    go_ret
    exact ⟨ret_bool (by rw [← HF.out]; first | done | simp), b1⟩
