/- BoundHolds and LeastFactor: the walks. -/
import Derived.Test.YtfjbiiklggogkaaBound
namespace Go.Proofs.Ytfjbiiklggogkaa
open Go.RowKit
set_option linter.all false

/-- Whether a bound holds at one place. -/
def boundOk (x f p c : Int) : Bool := decide (x ≤ f * p + c)
def upDiv (x c p : Int) : Int := (x - c + p - 1) / p

theorem upDiv_le (x c f p : Int) (hp : 0 < p) : upDiv x c p ≤ f ↔ x ≤ f * p + c := by
  unfold upDiv
  rw [Int.ediv_le_iff_le_mul hp]
  generalize f * p = z
  constructor <;> intro h <;> omega

set_option maxHeartbeats 400000 in
theorem l20Bound_is (x f c : Int) (p : Nat) (v : Bool) (hv : boundOk x f p c = v) (w : World) (hx : -1 ≤ x ∧ x ≤ 1000000000000) (hf : 0 ≤ f ∧ f ≤ 1000000000000) (hc : 0 ≤ c ∧ c ≤ 1000000000000) (hp : p ≤ 16777216) :
    Calls Try.prog 62 #[.int .i64 x, .int .i64 f, .int .i64 p, .int .i64 c] w fun e w' => e = .returned (.bool v) ∧ w = w' := by
  have HV := Lib.hid hv; clear hv
  by_cases h1 : x ≤ c
  · go_enter Try.func62, Try.ntmps62
    go_wp2
    go_ret
    refine ⟨ret_bool ?_, rfl⟩
    rw [← HV.out]
    unfold boundOk
    have := Int.mul_nonneg hf.1 (Int.natCast_nonneg p)
    rw [decide_eq_true (by omega)]
  · rcases Nat.eq_zero_or_pos p with h0 | h0
    · subst h0
      go_enter Try.func62, Try.ntmps62
      go_wp2
      go_ret
      refine ⟨ret_bool ?_, rfl⟩
      rw [← HV.out]
      unfold boundOk
      rw [decide_eq_false (by simp; omega)]
    · go_enter Try.func62, Try.ntmps62
      go_wp2
      go_ret
      refine ⟨ret_bool ?_, rfl⟩
      rw [← HV.out]
      unfold boundOk
      have := upDiv_le x c f p (by omega)
      unfold upDiv at this
      rw [decide_eq_decide]
      exact this

def badAt (xs : List Int) (f : Int) (d : Nat) (c : Int) (j : Nat) : Bool := !boundOk (xs.getD j 0) f (j ^ d : Nat) c
def boundHolds (xs : List Int) (f d c : Int) : Bool × Int × Int :=
  if readyB xs f d c then
    match (List.range xs.length).find? (badAt xs f d.toNat c) with
    | none => (true, 0, 0)
    | some j => (false, j, 0)
  else (false, 0, 2)
theorem boundHolds_no {xs : List Int} {f d c : Int} (h : readyB xs f d c = false) : boundHolds xs f d c = (false, 0, 2) := by
  unfold boundHolds; rw [h]; rfl
theorem boundHolds_end {xs : List Int} {f c : Int} {d n : Nat} (h : readyB xs f d c = true) (hn : xs.length = n) (hj : ∀ j, j < n → badAt xs f d c j = false) : boundHolds xs f d c = (true, 0, 0) := by
  unfold boundHolds
  subst hn
  have : (List.range xs.length).find? (badAt xs f d c) = none := by
    rw [List.find?_eq_none]
    intro x hx
    simp [hj x (by simpa using hx)]
  rw [h]
  simp [this]
theorem boundHolds_bad {xs : List Int} {f c : Int} {d n k : Nat} (h : readyB xs f d c = true) (hn : xs.length = n) (hk : k < n) (hb : badAt xs f d c k = true) (hj : ∀ j, j < k → badAt xs f d c j = false) : boundHolds xs f d c = (false, (k : Int), 0) := by
  unfold boundHolds
  subst hn
  have : (List.range xs.length).find? (badAt xs f d c) = some k := by
    rw [List.find?_range_eq_some]
    refine ⟨hb, by simpa using hk, fun j h => by simp [hj j h]⟩
  rw [h]
  simp [this]
theorem badAt_is {xs : List Int} {k : Nat} {y : Int} (h : xs[k]? = some y) (f : Int) (d : Nat) (c : Int) : badAt xs f d c k = !boundOk y f (k ^ d : Nat) c := by
  unfold badAt; rw [getD_at h]
theorem ready_facts {xs : List Int} {f d c : Int} (h : readyB xs f d c = true) : xs.length ≤ 64 ∧ (∀ (k : Nat) (x : Int), xs[k]? = some x → -1 ≤ x ∧ x ≤ 1000000000000) ∧ (0 ≤ f ∧ f ≤ 1000000000000) ∧ (0 ≤ c ∧ c ≤ 1000000000000) ∧ 0 ≤ d ∧ d ≤ 4 := by
  unfold readyB at h
  simp only [Bool.and_eq_true, List.all_eq_true, inB_iff, decide_eq_true_eq] at h
  obtain ⟨⟨⟨⟨h1, h2⟩, h3⟩, h4⟩, h5⟩ := h
  exact ⟨h1, fun k x hx => h2 x (List.mem_of_getElem? hx), h3, h4, h5⟩
theorem ret3 {a a' : Bool} {b b' c c' : Int} (h : (a, b, c) = (a', b', c')) : Ending.returned (.tuple #[.bool a, .int .i64 b, .int .i64 c]) = .returned (.tuple #[.bool a', .int .i64 b', .int .i64 c']) := by
  injection h with h1 h2
  injection h2 with h2 h3
  rw [h1, h2, h3]
theorem ret2 {b b' c c' : Int} (h : (b, c) = (b', c')) : Ending.returned (.tuple #[.int .i64 b, .int .i64 c]) = .returned (.tuple #[.int .i64 b', .int .i64 c']) := by
  injection h with h2 h3
  rw [h2, h3]

def leastStep (xs : List Int) (d : Nat) (c : Int) (j : Nat) (o : Int) : Option Int :=
  if xs.getD j 0 ≤ c then some o else if (j ^ d : Nat) = 0 then none else some (max o (upDiv (xs.getD j 0) c (j ^ d : Nat)))
def leastTo (xs : List Int) (d : Nat) (c : Int) : Nat → Option Int
  | 0 => some 0
  | k + 1 => (leastTo xs d c k).bind (leastStep xs d c k)
def leastFactor (xs : List Int) (d c : Int) : Int × Int :=
  if readyB xs 0 d c then
    match leastTo xs d.toNat c xs.length with
    | none => (0, 3)
    | some o => (o, 0)
  else (0, 2)
theorem leastTo_none {xs : List Int} {d : Nat} {c : Int} {k n : Nat} (h : leastTo xs d c k = none) (hk : k ≤ n) : leastTo xs d c n = none := by
  induction n with
  | zero => obtain rfl : k = 0 := by omega
            exact h
  | succ n ih =>
    by_cases e : k = n + 1
    · subst e; exact h
    · unfold leastTo; rw [ih (by omega)]; rfl
theorem least_some {xs : List Int} {d n : Nat} {c o : Int} (h : readyB xs 0 d c = true) (hn : xs.length = n) (hl : leastTo xs d c n = some o) : leastFactor xs d c = (o, 0) := by
  subst hn
  unfold leastFactor
  rw [h]
  simp [hl]
theorem least_none {xs : List Int} {d n k : Nat} {c : Int} (h : readyB xs 0 d c = true) (hn : xs.length = n) (hk : k ≤ n) (hl : leastTo xs d c k = none) : leastFactor xs d c = (0, 3) := by
  subst hn
  have := leastTo_none hl hk
  unfold leastFactor
  rw [h]
  simp [this]
theorem least_no {xs : List Int} {d c : Int} (h : readyB xs 0 d c = false) : leastFactor xs d c = (0, 2) := by
  unfold leastFactor; rw [h]; rfl
theorem upDiv_in {x c : Int} {p : Nat} (hp : 0 < p) (h1 : c < x) (h2 : x ≤ 1000000000000) (hc : 0 ≤ c) (hp2 : p ≤ 16777216) : 0 ≤ upDiv x c p ∧ upDiv x c p ≤ 1000000000000 := by
  constructor
  · unfold upDiv; exact Int.ediv_nonneg (by omega) (by omega)
  · rw [upDiv_le _ _ _ _ (by omega)]
    have : (1000000000000 : Int) * 1 ≤ 1000000000000 * (p : Int) := Int.mul_le_mul_of_nonneg_left (by omega) (by omega)
    omega

set_option maxRecDepth 100000 in
set_option maxHeartbeats 1000000 in
theorem specBoundHolds_any (b off n cc : Nat) (xs : List Int) (f d c : Int) (w : World) (hs : Sl w b off (xs.map (.int .i64))) (hl : xs.length = n) (hn : n ≤ 1048576) (wf : Wf64s xs) (wf1 : Wf64 f) (wf2 : Wf64 d) (wf3 : Wf64 c) :
    Calls Try.prog 15 #[.slice (some ⟨b, off, none⟩) n cc, .int .i64 f, .int .i64 d, .int .i64 c] w fun e w' => e = .returned (.tuple #[.bool (boundHolds xs f d c).1, .int .i64 (boundHolds xs f d c).2.1, .int .i64 (boundHolds xs f d c).2.2]) ∧ Below w.heap.size w w' := by
  clear wf wf1 wf2 wf3
  have HL := Lib.hid hl; clear hl
  rcases Bool.eq_false_or_eq_true (readyB xs f d c) with hr | hr
  rotate_left
  · have HR := Lib.hid hr; clear hr
    go_enter Try.func15, Try.ntmps15
    go_wp2_with fail
    refine (l20Ready_is b off n cc xs f d c false (by exact HR.out) _ hs HL.out (by omega)).mono ?_
    rintro e w' ⟨rfl, rfl⟩
    go_wp2_with fail
    go_ret3
    exact ⟨ret3 (by rw [boundHolds_no HR.out]), Below.refl _ _⟩
  · obtain ⟨h64, hxs, hff, hcc, hd0, hd4⟩ := ready_facts hr
    have HR := Lib.hid hr; clear hr
    have HX := Lib.hid hxs; clear hxs
    have hn64 : n ≤ 64 := by have := HL.out; omega
    clear h64
    obtain ⟨dn, rfl⟩ := Int.eq_ofNat_of_zero_le hd0
    have hdn : dn ≤ 4 := by omega
    clear hd0 hd4
    go_enter Try.func15, Try.ntmps15
    go_wp2_with fail
    refine (l20Ready_is b off n cc xs f dn c true (by exact HR.out) _ hs HL.out (by omega)).mono ?_
    rintro e w' ⟨rfl, rfl⟩
    go_wp2_with fail
    go_loopw [11] (fun i wr => ∃ k q : Nat, k ≤ n ∧ i = .int .i64 k ∧ wr = w.drewN q ∧ Hid (∀ j, j < k → badAt xs f dn c j = false)) (fun i _ => n - (intOf i).toNat)
    case atStart => exact ⟨0, 0, Nat.zero_le _, rfl, rfl, by intro j hj; omega⟩
    case round =>
      obtain ⟨k, q, hk, rfl, rfl, HJ⟩ := hrel
      by_cases hlt : k < n
      · obtain ⟨y, HY, hy⟩ := map_at (Value.int .i64) xs (k := k) (by have := HL.out; omega)
        have hcb := hs.at hy
        clear hy
        have hyb := HX.out k y HY.out
        have hpw := pow_le k dn (by omega) hdn
        have HB0 := Lib.hid (badAt_is HY.out f dn c)
        have HP := fun (w : World) => l20Power_any k dn w (by omega) hdn
        have HP := Lib.hid HP
        generalize k ^ dn = p at *
        rcases Bool.eq_false_or_eq_true (boundOk y f p c) with hb | hb
        · have HB := Lib.hid hb; clear hb
          go_wp2_with fail
          go_quiet ((first | (go_at_call 63; exact quiet_eq2 (HP.out _)) | (go_at_call 62; exact quiet_eq2 (l20Bound_is y f c p true HB.out _ hyb hff hcc hpw))))
          go_wp2_with fail
          go_roundw
          case rel => exact ⟨k + 1, _, by omega, by go_num, (by first | rfl | exact World.drewN_drewN _ _ _), by
            intro j hj
            by_cases ej : j = k
            · subst ej; rw [HB0.out, HB.out]; rfl
            · exact HJ.out j (by omega)⟩
          case measure => simp [intOf]; omega
        · have HB := Lib.hid hb; clear hb
          go_wp2_with fail
          go_quiet ((first | (go_at_call 63; exact quiet_eq2 (HP.out _)) | (go_at_call 62; exact quiet_eq2 (l20Bound_is y f c p false HB.out _ hyb hff hcc hpw))))
          go_wp2_with fail
          go_ret3
          exact ⟨ret3 (by rw [boundHolds_bad HR.out HL.out hlt (by rw [HB0.out, HB.out]; rfl) HJ.out]), (by first | exact below_drewN (Below.refl _ _) _ | exact below_drewN (below_drewN (Below.refl _ _) _) _)⟩
      · go_wp2_with fail
        go_ret3
        obtain rfl : k = n := by omega
        exact ⟨ret3 (by rw [boundHolds_end HR.out HL.out HJ.out]), below_drewN (Below.refl _ _) _⟩

set_option maxRecDepth 100000 in
set_option maxHeartbeats 1000000 in
theorem implBoundHolds_any (b off n cc : Nat) (xs : List Int) (f d c : Int) (w : World) (hs : Sl w b off (xs.map (.int .i64))) (hl : xs.length = n) (hn : n ≤ 1048576) (wf : Wf64s xs) (wf1 : Wf64 f) (wf2 : Wf64 d) (wf3 : Wf64 c) :
    Calls Try.prog 17 #[.slice (some ⟨b, off, none⟩) n cc, .int .i64 f, .int .i64 d, .int .i64 c] w fun e w' => e = .returned (.tuple #[.bool (boundHolds xs f d c).1, .int .i64 (boundHolds xs f d c).2.1, .int .i64 (boundHolds xs f d c).2.2]) ∧ Below w.heap.size w w' := by
  clear wf wf1 wf2 wf3
  have HL := Lib.hid hl; clear hl
  rcases Bool.eq_false_or_eq_true (readyB xs f d c) with hr | hr
  rotate_left
  · have HR := Lib.hid hr; clear hr
    go_enter Try.func17, Try.ntmps17
    go_wp2_with fail
    refine (boundCode_is b off n cc xs f d c 2 (by rw [HR.out]; rfl) _ hs HL.out (by omega)).mono ?_
    rintro e w' ⟨rfl, rfl⟩
    go_wp2_with fail
    go_ret3
    exact ⟨ret3 (by rw [boundHolds_no HR.out]), Below.refl _ _⟩
  · obtain ⟨h64, hxs, hff, hcc, hd0, hd4⟩ := ready_facts hr
    have HR := Lib.hid hr; clear hr
    have HX := Lib.hid hxs; clear hxs
    have hn64 : n ≤ 64 := by have := HL.out; omega
    clear h64
    obtain ⟨dn, rfl⟩ := Int.eq_ofNat_of_zero_le hd0
    have hdn : dn ≤ 4 := by omega
    clear hd0 hd4
    go_enter Try.func17, Try.ntmps17
    go_wp2_with fail
    refine (boundCode_is b off n cc xs f dn c 0 (by rw [HR.out]; rfl) _ hs HL.out (by omega)).mono ?_
    rintro e w' ⟨rfl, rfl⟩
    go_wp2_with fail
    go_loop [12, 13, 14, 15, 26] (fun s1 s2 s3 s4 i => ∃ k : Nat, k ≤ n ∧ i = .int .i64 k ∧ Hid (∀ j, j < k → badAt xs f dn c j = false)) (fun _ _ _ _ i => n - (intOf i).toNat)
    case atStart => exact ⟨0, Nat.zero_le _, rfl, by intro j hj; omega⟩
    case round =>
      obtain ⟨k, hk, rfl, HJ⟩ := hrel
      by_cases hlt : k < n
      · obtain ⟨y, HY, hy⟩ := map_at (Value.int .i64) xs (k := k) (by have := HL.out; omega)
        have hcb := hs.at hy
        clear hy
        have hyb := HX.out k y HY.out
        have hpw := pow_le k dn (by omega) hdn
        have HB0 := Lib.hid (badAt_is HY.out f dn c)
        have HP := fun (w : World) => powerOf_any k dn w (by omega) hdn
        have HP := Lib.hid HP
        generalize k ^ dn = p at *
        go_wp2_with fail
        refine (HP.out _).mono ?_
        rintro e w' ⟨rfl, rfl⟩
        by_cases hbig : 0 < p ∧ 1000000000000 / (p : Int) < f
        · obtain ⟨hp0, hfb⟩ := hbig
          have HB : Hid (boundOk y f p c = true) := by
            unfold Hid boundOk
            rw [decide_eq_true_eq]
            rw [Int.ediv_lt_iff_lt_mul (by omega)] at hfb
            omega
          go_wp2_with fail
          go_round
          case rel => exact ⟨k + 1, by omega, by go_num, by
            intro j hj
            by_cases ej : j = k
            · subst ej; rw [HB0.out, HB.out]; rfl
            · exact HJ.out j (by omega)⟩
          case measure => simp [intOf]; omega
        · have hm : 0 ≤ f * (p : Int) ∧ f * (p : Int) ≤ 1000000000000 := by
            refine ⟨Int.mul_nonneg hff.1 (by omega), ?_⟩
            rcases Nat.eq_zero_or_pos p with h0 | h0
            · subst h0; simp
            · have : f ≤ 1000000000000 / (p : Int) := Int.not_lt.1 (fun h2 => hbig ⟨h0, h2⟩)
              exact (Int.le_ediv_iff_mul_le (by omega)).1 this
          have hsm : p = 0 ∨ (0 < p ∧ f ≤ 1000000000000 / (p : Int)) := by
            rcases Nat.eq_zero_or_pos p with h0 | h0
            · exact .inl h0
            · exact .inr ⟨h0, Int.not_lt.1 (fun h2 => hbig ⟨h0, h2⟩)⟩
          clear hbig
          obtain ⟨z, HZ⟩ : ∃ z, Hid (f * (p : Int) = z) := ⟨_, rfl⟩
          rw [HZ.out] at hm
          have hwr : IntKind.i64.wrap (f * (p : Int)) = z := by rw [HZ.out]; exact IntWalk.i64_in _ (by omega)
          rcases Bool.eq_false_or_eq_true (boundOk y f p c) with hb | hb
          · have HB := Lib.hid hb
            unfold boundOk at hb
            rw [HZ.out, decide_eq_true_eq] at hb
            rcases hsm with hp0 | ⟨hp0, hfb⟩
            · subst hp0
              obtain rfl : z = 0 := by have := HZ.out; simp at this; exact this.symm
              clear hwr
              go_wp2_with fail
              go_round
              case rel => exact ⟨k + 1, by omega, by go_num, by
                intro j hj
                by_cases ej : j = k
                · subst ej; rw [HB0.out, HB.out]; rfl
                · exact HJ.out j (by omega)⟩
              case measure => simp [intOf]; omega
            · go_wp2_with fail
              go_round
              case rel => exact ⟨k + 1, by omega, by go_num, by
                intro j hj
                by_cases ej : j = k
                · subst ej; rw [HB0.out, HB.out]; rfl
                · exact HJ.out j (by omega)⟩
              case measure => simp [intOf]; omega
          · have HB := Lib.hid hb
            unfold boundOk at hb
            rw [HZ.out, decide_eq_false_iff_not] at hb
            rcases hsm with hp0 | ⟨hp0, hfb⟩
            · subst hp0
              obtain rfl : z = 0 := by have := HZ.out; simp at this; exact this.symm
              clear hwr
              go_wp2_with fail
              go_ret3
              exact ⟨ret3 (by rw [boundHolds_bad HR.out HL.out hlt (by rw [HB0.out, HB.out]; rfl) HJ.out]), Below.refl _ _⟩
            · go_wp2_with fail
              go_ret3
              exact ⟨ret3 (by rw [boundHolds_bad HR.out HL.out hlt (by rw [HB0.out, HB.out]; rfl) HJ.out]), Below.refl _ _⟩
      · go_wp2_with fail
        go_ret3
        obtain rfl : k = n := by omega
        exact ⟨ret3 (by rw [boundHolds_end HR.out HL.out HJ.out]), Below.refl _ _⟩

set_option maxRecDepth 100000 in
set_option maxHeartbeats 1000000 in
theorem specLeastFactor_any (b off n cc : Nat) (xs : List Int) (d c : Int) (w : World) (hs : Sl w b off (xs.map (.int .i64))) (hl : xs.length = n) (hn : n ≤ 1048576) (wf : Wf64s xs) (wf2 : Wf64 d) (wf3 : Wf64 c) :
    Calls Try.prog 19 #[.slice (some ⟨b, off, none⟩) n cc, .int .i64 d, .int .i64 c] w fun e w' => e = .returned (.tuple #[.int .i64 (leastFactor xs d c).1, .int .i64 (leastFactor xs d c).2]) ∧ Below w.heap.size w w' := by
  clear wf wf2 wf3
  have HL := Lib.hid hl; clear hl
  rcases Bool.eq_false_or_eq_true (readyB xs 0 d c) with hr | hr
  rotate_left
  · have HR := Lib.hid hr; clear hr
    go_enter Try.func19, Try.ntmps19
    go_wp2_with fail
    refine (l20Ready_is b off n cc xs 0 d c false (by exact HR.out) _ hs HL.out (by omega)).mono ?_
    rintro e w' ⟨rfl, rfl⟩
    go_wp2_with fail
    go_ret2
    exact ⟨ret2 (by rw [least_no HR.out]), Below.refl _ _⟩
  · obtain ⟨h64, hxs, hff, hcc, hd0, hd4⟩ := ready_facts hr
    have HR := Lib.hid hr; clear hr
    have HX := Lib.hid hxs; clear hxs
    have hn64 : n ≤ 64 := by have := HL.out; omega
    clear h64
    obtain ⟨dn, rfl⟩ := Int.eq_ofNat_of_zero_le hd0
    have hdn : dn ≤ 4 := by omega
    clear hd0 hd4
    go_enter Try.func19, Try.ntmps19
    go_wp2_with fail
    refine (l20Ready_is b off n cc xs 0 dn c true (by exact HR.out) _ hs HL.out (by omega)).mono ?_
    rintro e w' ⟨rfl, rfl⟩
    go_wp2_with fail
    go_loop [8, 9, 10] (fun o i s1 => ∃ (k : Nat) (q : Int), k ≤ n ∧ i = .int .i64 k ∧ o = .int .i64 q ∧ (0 ≤ q ∧ q ≤ 1000000000000) ∧ Hid (leastTo xs dn c k = some q)) (fun _ i _ => n - (intOf i).toNat)
    case atStart => exact ⟨0, 0, Nat.zero_le _, rfl, rfl, by omega, rfl⟩
    case round =>
      obtain ⟨k, q, hk, rfl, rfl, hq, HJ⟩ := hrel
      by_cases hlt : k < n
      · obtain ⟨y, HY, hy⟩ := map_at (Value.int .i64) xs (k := k) (by have := HL.out; omega)
        have hcb := hs.at hy
        clear hy
        have hyb := HX.out k y HY.out
        have hpw := pow_le k dn (by omega) hdn
        have HS : Hid (leastTo xs dn c (k + 1) = if y ≤ c then some q else if (k ^ dn : Nat) = 0 then none else some (max q (upDiv y c (k ^ dn : Nat)))) := by
          unfold Hid; show (leastTo xs dn c k).bind _ = _; rw [HJ.out]; show leastStep xs dn c k q = _; unfold leastStep; rw [getD_at HY.out]
        have HP := fun (w : World) => l20Power_any k dn w (by omega) hdn
        have HP := Lib.hid HP
        generalize k ^ dn = p at *
        go_wp2_with fail
        refine (HP.out _).mono ?_
        rintro e w' ⟨rfl, rfl⟩
        by_cases hyc : y ≤ c
        · go_wp2_with fail
          go_round
          case rel => exact ⟨k + 1, q, by omega, by go_num, rfl, hq, by unfold Hid; rw [HS.out, if_pos hyc]⟩
          case measure => simp [intOf]; omega
        rcases Nat.eq_zero_or_pos p with h0 | h0
        · subst h0
          go_wp2_with fail
          go_ret2
          exact ⟨ret2 (by rw [least_none HR.out HL.out (by omega : k + 1 ≤ n) (by rw [HS.out, if_neg (by omega)]; simp)]), Below.refl _ _⟩
        · have hu := upDiv_in h0 (by omega) hyb.2 hcc.1 hpw
          have HU : Hid ((y - c + (p : Int) - 1) / (p : Int) = upDiv y c p) := rfl
          go_wp2_with fail
          refine (l00Max_any _ _ _).mono ?_
          rintro e w' ⟨rfl, rfl⟩
          go_wp2_with fail
          rw [HU.out]
          go_round
          case rel => exact ⟨k + 1, max q (upDiv y c p), by omega, by go_num, (by first | rfl | exact congrArg (Value.int .i64) (by omega)), by omega, by unfold Hid; rw [HS.out, if_neg (by omega), if_neg (by omega)]⟩
          case measure => simp [intOf]; omega
      · go_wp2_with fail
        go_ret2
        obtain rfl : k = n := by omega
        exact ⟨ret2 (by rw [least_some HR.out HL.out HJ.out]), Below.refl _ _⟩

set_option maxRecDepth 100000 in
set_option maxHeartbeats 1000000 in
theorem implLeastFactor_any (b off n cc : Nat) (xs : List Int) (d c : Int) (w : World) (hs : Sl w b off (xs.map (.int .i64))) (hl : xs.length = n) (hn : n ≤ 1048576) (wf : Wf64s xs) (wf2 : Wf64 d) (wf3 : Wf64 c) :
    Calls Try.prog 20 #[.slice (some ⟨b, off, none⟩) n cc, .int .i64 d, .int .i64 c] w fun e w' => e = .returned (.tuple #[.int .i64 (leastFactor xs d c).1, .int .i64 (leastFactor xs d c).2]) ∧ Below w.heap.size w w' := by
  clear wf wf2 wf3
  have HL := Lib.hid hl; clear hl
  rcases Bool.eq_false_or_eq_true (readyB xs 0 d c) with hr | hr
  rotate_left
  · have HR := Lib.hid hr; clear hr
    go_enter Try.func20, Try.ntmps20
    go_wp2_with fail
    refine (boundCode_is b off n cc xs 0 d c 2 (by rw [HR.out]; rfl) _ hs HL.out (by omega)).mono ?_
    rintro e w' ⟨rfl, rfl⟩
    go_wp2_with fail
    go_ret2
    exact ⟨ret2 (by rw [least_no HR.out]), Below.refl _ _⟩
  · obtain ⟨h64, hxs, hff, hcc, hd0, hd4⟩ := ready_facts hr
    have HR := Lib.hid hr; clear hr
    have HX := Lib.hid hxs; clear hxs
    have hn64 : n ≤ 64 := by have := HL.out; omega
    clear h64
    obtain ⟨dn, rfl⟩ := Int.eq_ofNat_of_zero_le hd0
    have hdn : dn ≤ 4 := by omega
    clear hd0 hd4
    go_enter Try.func20, Try.ntmps20
    go_wp2_with fail
    refine (boundCode_is b off n cc xs 0 dn c 0 (by rw [HR.out]; rfl) _ hs HL.out (by omega)).mono ?_
    rintro e w' ⟨rfl, rfl⟩
    go_wp2_with fail
    go_loop [9, 10, 11, 12, 13, 23] (fun o s1 s2 s3 s4 i => ∃ (k : Nat) (q : Int), k ≤ n ∧ i = .int .i64 k ∧ o = .int .i64 q ∧ (0 ≤ q ∧ q ≤ 1000000000000) ∧ Hid (leastTo xs dn c k = some q)) (fun _ _ _ _ _ i => n - (intOf i).toNat)
    case atStart => exact ⟨0, 0, Nat.zero_le _, rfl, rfl, by omega, rfl⟩
    case round =>
      obtain ⟨k, q, hk, rfl, rfl, hq, HJ⟩ := hrel
      by_cases hlt : k < n
      · obtain ⟨y, HY, hy⟩ := map_at (Value.int .i64) xs (k := k) (by have := HL.out; omega)
        have hcb := hs.at hy
        clear hy
        have hyb := HX.out k y HY.out
        have hpw := pow_le k dn (by omega) hdn
        have HS : Hid (leastTo xs dn c (k + 1) = if y ≤ c then some q else if (k ^ dn : Nat) = 0 then none else some (max q (upDiv y c (k ^ dn : Nat)))) := by
          unfold Hid; show (leastTo xs dn c k).bind _ = _; rw [HJ.out]; show leastStep xs dn c k q = _; unfold leastStep; rw [getD_at HY.out]
        have HP := fun (w : World) => powerOf_any k dn w (by omega) hdn
        have HP := Lib.hid HP
        generalize k ^ dn = p at *
        go_wp2_with fail
        refine (HP.out _).mono ?_
        rintro e w' ⟨rfl, rfl⟩
        by_cases hyc : y ≤ c
        · go_wp2_with fail
          go_round
          case rel => exact ⟨k + 1, q, by omega, by go_num, rfl, hq, by unfold Hid; rw [HS.out, if_pos hyc]⟩
          case measure => simp [intOf]; omega
        rcases Nat.eq_zero_or_pos p with h0 | h0
        · subst h0
          go_wp2_with fail
          go_ret2
          exact ⟨ret2 (by rw [least_none HR.out HL.out (by omega : k + 1 ≤ n) (by rw [HS.out, if_neg (by omega)]; simp)]), Below.refl _ _⟩
        · have hu := upDiv_in h0 (by omega) hyb.2 hcc.1 hpw
          have HU : Hid ((y - c + (p : Int) - 1) / (p : Int) = upDiv y c p) := rfl
          go_wp2_with fail
          rw [HU.out]
          go_round
          case rel => exact ⟨k + 1, max q (upDiv y c p), by omega, by go_num, (by first | rfl | exact congrArg (Value.int .i64) (by omega)), by omega, by unfold Hid; rw [HS.out, if_neg (by omega), if_neg (by omega)]⟩
          case measure => simp [intOf]; omega
      · go_wp2_with fail
        go_ret2
        obtain rfl : k = n := by omega
        exact ⟨ret2 (by rw [least_some HR.out HL.out HJ.out]), Below.refl _ _⟩
end Go.Proofs.Ytfjbiiklggogkaa
