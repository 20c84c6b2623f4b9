/- slices.Grow of the nil slice and slices.Concat, elements int64. -/
import Derived.Test.YtjakgeblmkdbpaaApp
import Derived.Test.YtjakgeblmkdbpaaHelpInt
namespace Go.Proofs.Ytjakgeblmkdbpaa
open Go.RowKit
set_option linter.all false

set_option maxRecDepth 100000 in
theorem growNilInt64S_any (n : Nat) (w : World) (hn : n ≤ 8388608) :
    Calls Try.prog 198 #[.slice none 0 0, .int .i64 n] w fun e w' => ∃ v, e = .returned v ∧ w'.ownsRow w.heap.size 2 1 v 0 [] ∧ Below w.heap.size w w' ∧ (v = .slice none 0 0 → n = 0) := by
  obtain ⟨i0, hi, hz0, hz1, hz2⟩ := info_parts infoInt64S
  rcases Nat.eq_zero_or_pos n with h0 | h0
  · subst h0
    clear hi hz0 hz1 hz2
    go_enter Try.func198, Try.ntmps198
    go_wp2_with fail
    go_ret
    exact ⟨_, rfl, World.ownsRow_nil _ _ _ _, Below.refl _ _, fun _ => by first | rfl | trivial⟩
  · have happ := Lib.run_append_nil_zeros (P := Try.prog) w 25 3 25 2 i0 (Value.int .i64 0) .i64 .i64 Try.underlying25 Try.underlying3 hi hz0 n h0 (by omega) (by omega) (by rw [hz2]; omega)
    have hge := grownCap_ge w n 0 2
    have hle := grownCap_le_maxLen w n 0 2 (by unfold maxLen; omega)
    generalize grownCap w n 0 2 = cap at *
    have HP := Lib.hid happ
    have hzs : ∀ k, (Builtin.zeroCells (Value.cells (Value.int .i64 0)) n ++ Builtin.zeroCells (Value.cells (Value.int .i64 0)) (cap - n)).size = k * 1 ↔ k = cap := by
      intro k; simp [size_zeroCells, Value.cells]; omega
    generalize (Builtin.zeroCells (Value.cells (Value.int .i64 0)) n ++ Builtin.zeroCells (Value.cells (Value.int .i64 0)) (cap - n)) = Z at *
    have HZ : Hid (Z.size = cap * 1) := (hzs cap).2 rfl
    clear happ hi hz0 hz1 hz2 hzs
    unfold maxLen at hle
    go_enter Try.func198, Try.ntmps198
    go_wp2_with (at_builtin; refine Lib.wpList_append_run _ rfl _ _ _ _ rfl _ _ rfl rfl _ _ HP.out ?_)
    go_ret
    refine ⟨_, rfl, World.ownsRow_made w.drew Z cap (Nat.le_refl _) (by unfold maxLen; omega) HZ.out, (laid_below w _).drew, fun e => by cases e⟩

/-- Slices in the cells of another one. -/
def SrcsInt64S (w : World) (vs : List Value) (ns : List Nat) (xss : List (List Value)) : Prop :=
  vs.length = xss.length ∧ vs.length = ns.length ∧ ∀ (j : Nat) (v : Value) (n : Nat) (xs : List Value), vs[j]? = some v → ns[j]? = some n → xss[j]? = some xs → Src 1 w v n xs ∧ ∀ u ∈ xs, u.oneCell' = true
theorem SrcsInt64S.below {w w' : World} {vs : List Value} {ns : List Nat} {xss : List (List Value)} (h : SrcsInt64S w vs ns xss) (hb : Below w.heap.size w w') : SrcsInt64S w' vs ns xss :=
  ⟨h.1, h.2.1, fun j v n xs h1 h2 h3 => ⟨(h.2.2 j v n xs h1 h2 h3).1.below hb, (h.2.2 j v n xs h1 h2 h3).2⟩⟩

theorem sum_take_le (ns : List Nat) (k : Nat) : (ns.take k).sum ≤ ns.sum := by
  induction ns generalizing k with
  | nil => simp
  | cons n ns ih =>
    cases k with
    | zero => simp
    | succ k => simp; exact ih k
theorem sum_take_succ (ns : List Nat) (k n : Nat) (h : ns[k]? = some n) : (ns.take (k + 1)).sum = (ns.take k).sum + n := by
  rw [List.take_add_one, h]; simp

set_option maxRecDepth 100000 in
set_option maxHeartbeats 1000000 in
theorem concatInt64S_any (g off c : Nat) (vs : List Value) (ns : List Nat) (xss : List (List Value)) (w : World) (hs : Sl w g off vs) (hv : SrcsInt64S w vs ns xss) (hn : ns.sum ≤ 8388608) (hl : ns.length ≤ 1000) :
    Calls Try.prog 189 #[.slice (some ⟨g, off, none⟩) ns.length c] w fun e w' => ∃ v, e = .returned v ∧ w'.ownsRow w.heap.size 2 1 v ns.sum xss.flatten ∧ Below w.heap.size w w' ∧ (v = .slice none 0 0 → ns.sum = 0) := by
  obtain ⟨m, hm⟩ : ∃ m, m = ns.length := ⟨_, rfl⟩
  rw [← hm] at hl ⊢
  have HM := Lib.hid hm
  clear hm
  go_enter Try.func189, Try.ntmps189
  go_wp2_with fail
  go_loop [3, 11] (fun sz i => ∃ k s : Nat, k ≤ m ∧ i = .int .i64 k ∧ sz = .int .i64 s ∧ s ≤ 8388608 ∧ Hid (s = (ns.take k).sum)) (fun _ i => m - (intOf i).toNat)
  case atStart => exact ⟨0, 0, Nat.zero_le _, rfl, rfl, by omega, by simp [Hid]⟩
  case round =>
    obtain ⟨k, s, hk, rfl, rfl, hs8, HS⟩ := hrel
    by_cases hlt : k < m
    · obtain ⟨v, hv1⟩ : ∃ v, vs[k]? = some v := ⟨_, List.getElem?_eq_getElem (by have := hv.2.1; have := HM.out; omega)⟩
      obtain ⟨n1, hn1⟩ : ∃ n1, ns[k]? = some n1 := ⟨_, List.getElem?_eq_getElem (by have := HM.out; omega)⟩
      obtain ⟨x1, hx1⟩ : ∃ x1, xss[k]? = some x1 := ⟨_, List.getElem?_eq_getElem (by have := hv.1; have := hv.2.1; have := HM.out; omega)⟩
      obtain ⟨hsrc, _⟩ := hv.2.2 k v n1 x1 hv1 hn1 hx1
      have hca := hs.at hv1
      obtain ⟨A, c1, rfl⟩ := hsrc.form
      have hsum : (ns.take k).sum + n1 ≤ 8388608 := by rw [← sum_take_succ ns k n1 hn1]; exact Nat.le_trans (sum_take_le _ _) hn
      have hle : s + n1 ≤ 8388608 := by rw [HS.out]; exact hsum
      have HN := Lib.hid hn1
      clear hv1 hn1 hx1 hsum hsrc
      go_wp2_with fail
      go_round
      case rel => exact ⟨k + 1, s + n1, by omega, by go_num, by go_num, hle, by rw [HS.out, sum_take_succ ns k n1 HN.out]; rfl⟩
      case measure => simp [intOf]; omega
    · have hkm : k = m := by omega
      have HS2 : Hid (s = ns.sum) := by have := HS.out; rw [hkm, HM.out, List.take_length] at this; exact this
      clear hkm
      go_wp2_with fail
      refine (growNilInt64S_any s w hs8).mono ?_
      rintro e w1 ⟨v1, rfl, hown1, hB1, hnil1⟩
      have HNIL := Lib.hid hnil1
      clear hnil1
      go_wp2_with fail
      go_loopw [6, 27] (fun v i wr => ∃ k : Nat, k ≤ m ∧ i = .int .i64 k ∧ wr.ownsRow w.heap.size 2 1 v (ns.take k).sum (xss.take k).flatten ∧ Below w.heap.size w wr ∧ Hid (v = .slice none 0 0 → s = 0)) (fun _ i _ => m - (intOf i).toNat)
      case atStart => exact ⟨0, Nat.zero_le _, rfl, by simpa using hown1, hB1, HNIL.out⟩
      case round =>
        obtain ⟨k, hk, rfl, hown, hB, HV⟩ := hrel
        by_cases hlt : k < m
        · obtain ⟨v, hv1⟩ : ∃ v, vs[k]? = some v := ⟨_, List.getElem?_eq_getElem (by have := hv.2.1; have := HM.out; omega)⟩
          obtain ⟨n1, hn1⟩ : ∃ n1, ns[k]? = some n1 := ⟨_, List.getElem?_eq_getElem (by have := HM.out; omega)⟩
          obtain ⟨x1, hx1⟩ : ∃ x1, xss[k]? = some x1 := ⟨_, List.getElem?_eq_getElem (by have := hv.1; have := hv.2.1; have := HM.out; omega)⟩
          obtain ⟨hsrc, hone⟩ := (hv.below hB).2.2 k v n1 x1 hv1 hn1 hx1
          have hca := (hs.below' hB).at hv1
          have hsum : (ns.take k).sum + n1 ≤ 8388608 := by rw [← sum_take_succ ns k n1 hn1]; exact Nat.le_trans (sum_take_le _ _) hn
          have HN := Lib.hid hn1; have HX := Lib.hid hx1
          clear hv1 hn1 hx1
          go_wp2_with (at_builtin; refine wpList_appx rfl _ _ _ rfl Try.underlying25 infoInt64S rfl (by omega) w.heap.size hown hB.size rfl hsrc rfl hone (by unfold maxLen; omega) (by omega) ?_; intro v2 w2 hown2 hg2 hnil2; have hB2 := grown_below hB hown (Nat.le_refl _) hg2; have HNIL2 := Lib.hid hnil2; clear hnil2)
          go_roundw
          case rel => exact ⟨k + 1, by omega, by go_num, by rw [sum_take_succ ns k n1 HN.out, List.take_add_one, HX.out, List.flatten_append]; simpa using hown2, hB2, fun e => HV.out (HNIL2.out e).1⟩
          case measure => simp [intOf]; omega
        · have hkm : k = m := by omega
          have e1 : (ns.take k).sum = ns.sum := by rw [hkm, HM.out, List.take_length]
          have e2 : (xss.take k) = xss := by rw [hkm, HM.out, List.take_of_length_le (by have := hv.1; have := hv.2.1; omega)]
          rw [e1, e2] at hown
          clear hkm e1 e2
          go_wp2_with fail
          go_ret
          exact ⟨_, rfl, hown, hB, fun e => by have h1 := HV.out e; have h2 := HS2.out; omega⟩
end Go.Proofs.Ytjakgeblmkdbpaa
