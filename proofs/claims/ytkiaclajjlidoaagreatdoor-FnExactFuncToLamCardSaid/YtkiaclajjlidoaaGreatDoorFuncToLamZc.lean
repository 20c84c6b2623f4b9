/- The law FnExactFuncToLam returns true for every input, and each argument reads afterwards as before: the proof, part 3. No conditions. -/
import Derived.Test.YtkiaclajjlidoaaGreatDoorFuncToLamZb
import Derived.StillTailTactics
import Derived.Laws.CopyOwn
import Derived.Test.YtkiaclajjlidoaaGreatDoorBitsLay
import Derived.Deep.RegionLaw
import Derived.Shelf.Strings.Builder1
import Derived.Test.YtkiaclajjlidoaaGreatDoorLamLay
import Derived.Lib.SmallJoins
/- Contracts of the laws' helpers on []Lam: copy, compare, size, mark, look at the marks. For slices of at most 1048576 elements. -/
namespace Go.Proofs.YtkiaclajjlidoaaGreatDoor
open Go.RowKit
set_option linter.all false

theorem infoLam : (Tryz.prog.info? 45).map (fun i => (i.zero, i.size, i.bytes)) = some (some (.agg #[.int .i64 0, .int .i64 0]), 2, 16) := by kernel_rfl

theorem eqLam_any (x y : R2) (w : World) : Calls Tryz.prog 30 #[.agg #[.int .i64 x.a, .int .i64 x.b], .agg #[.int .i64 y.a, .int .i64 y.b]] w fun e w' => e = .returned (.bool (decide (x = y))) ∧ Below w.heap.size w w' := by
  obtain ⟨a, b⟩ := x
  obtain ⟨a', b'⟩ := y
  have h0 : Below w.heap.size w ((w.alloc (.cells #[.int .i64 a, .int .i64 b] 45)).alloc (.cells #[.int .i64 a', .int .i64 b'] 45)) := ((Below.refl _ _).alloc (Nat.le_refl _) _).alloc (by simp) _
  by_cases h1 : a = a'
  rotate_left
  · have e3 : (a != a') = true := by simpa using h1
    go_enter Tryz.func30, Tryz.ntmps30
    go_wp2
    go_ret
    exact ⟨ret_bool (by simp [h1]), h0⟩
  subst h1
  by_cases h2 : b = b'
  rotate_left
  · have e3 : (b != b') = true := by simpa using h2
    go_enter Tryz.func30, Tryz.ntmps30
    go_wp2
    go_ret
    exact ⟨ret_bool (by simp [h2]), h0⟩
  subst h2
  go_enter Tryz.func30, Tryz.ntmps30
  go_wp2
  go_ret
  exact ⟨ret_bool (by simp), h0⟩

theorem eqLam_is (x y : R2) (v : Bool) (h : decide (x = y) = v) (w : World) : Calls Tryz.prog 30 #[.agg #[.int .i64 x.a, .int .i64 x.b], .agg #[.int .i64 y.a, .int .i64 y.b]] w fun e w' => e = .returned (.bool v) ∧ Below w.heap.size w w' := by
  subst h; exact eqLam_any x y w

set_option maxRecDepth 100000 in
set_option maxHeartbeats 400000 in
theorem eqLamS_any (A B : Option Addr) (n m c d : Nat) (xs ys : List R2) (w : World) (ha : Args 2 w A n (rows R2.vs xs)) (hb : Args 2 w B m (rows R2.vs ys)) (hn : n ≤ 4194304) (hm : m ≤ 4194304) :
    Calls Tryz.prog 9 #[.slice A n c, .slice B m d] w fun e w' => e = .returned (.bool (decide (xs = ys))) ∧ Below w.heap.size w w' := by
  have HA : Hid (xs.length = n) := by have := ha.1; rw [rows_len R2.vs_len] at this; unfold Hid; omega
  have HB : Hid (ys.length = m) := by have := hb.1; rw [rows_len R2.vs_len] at this; unfold Hid; omega
  by_cases hnm : n = m
  · subst hnm
    go_enter Tryz.func9, Tryz.ntmps9
    go_wp2
    go_loopw [5] (fun i wr => ∃ k : Nat, k ≤ n ∧ i = .int .i64 k ∧ Below w.heap.size w wr ∧ Hid (xs.take k = ys.take k)) (fun i _ => n - (intOf i).toNat)
    case atStart => exact ⟨0, Nat.zero_le _, rfl, Below.refl _ _, rfl⟩
    case round =>
      obtain ⟨k, hk, rfl, hB, HR⟩ := hrel
      by_cases hlt : k < n
      · obtain ⟨b1, o1, rfl, hs1⟩ := ha.sl hlt
        obtain ⟨b2, o2, rfl, hs2⟩ := hb.sl hlt
        obtain ⟨x, HX⟩ := hget HA hlt
        obtain ⟨y, HY⟩ := hget HB hlt
        obtain ⟨p0, p1⟩ := (hs1.below' hB).rec2 HX.out
        obtain ⟨q0, q1⟩ := (hs2.below' hB).rec2 HY.out
        clear hs1 hs2 ha hb
        by_cases e : x = y
        · have E := Lib.hid (decide_eq_true e)
          have E2 := Lib.hid e
          clear e
          go_wp2
          go_still_tail 8, (by kernel_rfl)
          change wpList _ _ _ _ _ wr.drew
          have hB2 := hB.drew
          clear p0 q0 p1 q1 hB
          generalize wr.drew = w2 at hB2 ⊢
          go_wp2_with fail
          refine (eqLam_is x y true E.out _).mono ?_
          rintro e w3 ⟨rfl, hb3⟩
          go_wp2
          go_roundw
          case rel => exact ⟨k + 1, by omega, by go_num, below_step hB2 hb3, take_succ_eq HR.out HX.out HY.out E2.out⟩
          case measure => simp [intOf]; omega
        · have E := Lib.hid (decide_eq_false e)
          have HE := Lib.hid e
          clear e
          go_wp2
          go_still_tail 8, (by kernel_rfl)
          change wpList _ _ _ _ _ wr.drew
          have hB2 := hB.drew
          clear p0 q0 p1 q1 hB
          generalize wr.drew = w2 at hB2 ⊢
          go_wp2_with fail
          refine (eqLam_is x y false E.out _).mono ?_
          rintro e w3 ⟨rfl, hb3⟩
          go_wp2
          go_ret
          exact ⟨ret_bool (by simp [ne_of_at HX.out HY.out HE.out]), below_step hB2 hb3⟩
      · go_wp2
        go_ret
        refine ⟨ret_bool ?_, hB⟩
        have h1 := HR.out
        have h2 := HA.out
        have h3 := HB.out
        rw [List.take_of_length_le (by omega), List.take_of_length_le (by omega)] at h1
        simp [h1]
  · have hne : ((n : Int) != (m : Int)) = true := by simp; omega
    go_enter Tryz.func9, Tryz.ntmps9
    go_wp2
    go_ret
    refine ⟨ret_bool ?_, Below.refl _ _⟩
    have h2 := HA.out
    have h3 := HB.out
    symm
    apply decide_eq_false
    rintro rfl
    omega

set_option maxHeartbeats 800000 in
theorem markLamS_any (base : Nat) (v : Value) (n : Nat) (k0 : Int) (xs : List Value) (w : World) (ho : w.ownsRow base 45 2 v n xs) (hk0 : 0 ≤ k0) (hk1 : k0 ≤ 1099511627776) (hn : n ≤ 4194304) :
    Calls Tryz.prog 12 #[v, .int .i64 k0] w fun e w' => e = .returned (.int .i64 (k0 + (n * 2 : Nat))) ∧ w'.ownsRow base 45 2 v n (marks (.int .i64) k0 (n * 2)) ∧ w.grownBy w' v.ownBlock := by
  have HL : Hid (xs.length = n * 2) := ho.1
  rcases ho.2 with ⟨rfl, rfl⟩ | ⟨g, cap, cur, rfl, hbg, hh, hnc, hcm, hcs, htk⟩
  · go_enter Tryz.func12, Tryz.ntmps12
    go_wp2
    refine wp_loop_rounds 1 ?_
    rw [rounds_succ]
    go_wp2
    go_ret
    exact ⟨by simp, by simpa [marks] using World.ownsRow_nil _ _ _ _, World.grownBy.refl _ _⟩
  · clear hh hcs htk
    go_enter Tryz.func12, Tryz.ntmps12
    go_wp2
    go_loopw [1, 5] (fun kk i wr => ∃ k : Nat, k ≤ n ∧ i = .int .i64 k ∧ kk = .int .i64 (k0 + (k * 2 : Nat)) ∧ wr.ownsRow base 45 2 (.slice (some ⟨g, 0, none⟩) n cap) n (marks (.int .i64) k0 (k * 2) ++ xs.drop (k * 2)) ∧ w.grownBy wr (some g)) (fun _ i _ => n - (intOf i).toNat)
    case atStart => exact ⟨0, Nat.zero_le _, rfl, by simp, by simpa [marks] using ho, World.grownBy.refl _ _⟩
    case round =>
      obtain ⟨k, hk, rfl, rfl, hown, hgr⟩ := hrel
      clear ho
      by_cases hlt : k < n
      · obtain ⟨u0, c0⟩ := own_some hown (j := k * 2) (by omega)
        obtain ⟨u1, c1⟩ := own_some hown (j := k * 2 + 1) (by omega)
        have z0 := hown.frozenAt (k * 2)
        have z1 := hown.frozenAt (k * 2 + 1)
        have HS := Lib.hid (own_mark2 hown hgr HL.out hlt)
        have hm0 : ((k * 2 : Nat) : Int) = (k : Int) * 2 := by omega
        clear hown
        go_wp2
        go_roundw
        case rel => exact ⟨k + 1, by omega, by go_num, by go_num, by exact HS.out.1, by exact HS.out.2⟩
        case measure => simp [intOf]; omega
      · go_wp2
        go_ret
        obtain rfl : k = n := by omega
        refine ⟨rfl, ?_, hgr⟩
        rw [List.drop_of_length_le (by have := HL.out; omega), List.append_nil] at hown
        exact hown

set_option maxHeartbeats 800000 in
theorem heldLamS_any (A : Option Addr) (n c : Nat) (k0 : Int) (w : World) (ha : Args 2 w A n (marks (.int .i64) k0 (n * 2))) (hk0 : 0 ≤ k0) (hk1 : k0 ≤ 1099511627776) (hn : n ≤ 4194304) :
    Calls Tryz.prog 13 #[.slice A n c, .int .i64 k0] w fun e w' => e = .returned (.int .i64 (k0 + (n * 2 : Nat))) ∧ w = w' := by
  go_enter Tryz.func13, Tryz.ntmps13
  go_wp2
  go_loop [1, 5] (fun kk i => ∃ k : Nat, k ≤ n ∧ i = .int .i64 k ∧ kk = .int .i64 (k0 + (k * 2 : Nat))) (fun _ i => n - (intOf i).toNat)
  case atStart => exact ⟨0, Nat.zero_le _, rfl, by simp⟩
  case round =>
    obtain ⟨k, hk, rfl, rfl⟩ := hrel
    by_cases hlt : k < n
    · obtain ⟨b, off, rfl, hs⟩ := ha.sl hlt
      have h0 : w.cell? ⟨b, off + k * 2, none⟩ = some (.int .i64 (k0 + (k : Int) * 2)) := by
        have := hs.at (marks_at (.int .i64) k0 (n * 2) (k * 2 + 0) (by omega))
        rw [show off + (k * 2 + 0) = off + k * 2 by omega, show k0 + ((k * 2 + 0 : Nat) : Int) = k0 + (k : Int) * 2 by omega] at this
        exact this
      have h1 : w.cell? ⟨b, off + k * 2 + 1, none⟩ = some (.int .i64 (k0 + (k : Int) * 2 + 1)) := by
        have := hs.at (marks_at (.int .i64) k0 (n * 2) (k * 2 + 1) (by omega))
        rw [show off + (k * 2 + 1) = off + k * 2 + 1 by omega, show k0 + ((k * 2 + 1 : Nat) : Int) = k0 + (k : Int) * 2 + 1 by omega] at this
        exact this
      clear hs ha
      go_wp2
      go_round
      case rel => exact ⟨k + 1, by omega, by go_num, by go_num⟩
      case measure => simp [intOf]; omega
    · go_wp2
      go_ret
      obtain rfl : k = n := by omega
      exact ⟨rfl, rfl⟩

end Go.Proofs.YtkiaclajjlidoaaGreatDoor

/- slices.Grow of the nil slice and slices.Concat, elements impl.Lam. -/
namespace Go.Proofs.YtkiaclajjlidoaaGreatDoor
open Go.RowKit
set_option linter.all false

set_option maxRecDepth 100000 in
theorem growNilLam_any (n : Nat) (w : World) (hn : n ≤ 8388608) :
    Calls Tryz.prog 123 #[.slice none 0 0, .int .i64 n] w fun e w' => ∃ v, e = .returned v ∧ w'.ownsRow w.heap.size 45 2 v 0 [] ∧ Below w.heap.size w w' ∧ (v = .slice none 0 0 → n = 0) := by
  obtain ⟨i0, hi, hz0, hz1, hz2⟩ := info_parts infoLam
  rcases Nat.eq_zero_or_pos n with h0 | h0
  · subst h0
    clear hi hz0 hz1 hz2
    go_enter Tryz.func123, Tryz.ntmps123
    go_wp2_with fail
    go_ret
    exact ⟨_, rfl, World.ownsRow_nil _ _ _ _, Below.refl _ _, fun _ => by first | rfl | trivial⟩
  · have happ := Lib.run_append_nil_zeros (P := Tryz.prog) w 24 3 24 45 i0 (Value.agg #[.int .i64 0, .int .i64 0]) .i64 .i64 Tryz.underlying24 Tryz.underlying3 hi hz0 n h0 (by omega) (by omega) (by rw [hz2]; omega)
    have hge := grownCap_ge w n 0 45
    have hle := grownCap_le_maxLen w n 0 45 (by unfold maxLen; omega)
    generalize grownCap w n 0 45 = cap at *
    have HP := Lib.hid happ
    have hzs : ∀ k, (Builtin.zeroCells (Value.cells (Value.agg #[.int .i64 0, .int .i64 0])) n ++ Builtin.zeroCells (Value.cells (Value.agg #[.int .i64 0, .int .i64 0])) (cap - n)).size = k * 2 ↔ k = cap := by
      intro k; simp [size_zeroCells, Value.cells]; omega
    generalize (Builtin.zeroCells (Value.cells (Value.agg #[.int .i64 0, .int .i64 0])) n ++ Builtin.zeroCells (Value.cells (Value.agg #[.int .i64 0, .int .i64 0])) (cap - n)) = Z at *
    have HZ : Hid (Z.size = cap * 2) := (hzs cap).2 rfl
    clear happ hi hz0 hz1 hz2 hzs
    unfold maxLen at hle
    go_enter Tryz.func123, Tryz.ntmps123
    go_wp2_with (at_builtin; refine Lib.wpList_append_run _ rfl _ _ _ _ rfl _ _ rfl rfl _ _ HP.out ?_)
    go_ret
    refine ⟨_, rfl, World.ownsRow_made w.drew Z cap (Nat.le_refl _) (by unfold maxLen; omega) HZ.out, (laid_below w _).drew, fun e => by cases e⟩

/-- Slices in the cells of another one. -/
def SrcsLam (w : World) (vs : List Value) (ns : List Nat) (xss : List (List Value)) : Prop :=
  vs.length = xss.length ∧ vs.length = ns.length ∧ ∀ (j : Nat) (v : Value) (n : Nat) (xs : List Value), vs[j]? = some v → ns[j]? = some n → xss[j]? = some xs → Src 2 w v n xs ∧ ∀ u ∈ xs, u.oneCell' = true
theorem SrcsLam.below {w w' : World} {vs : List Value} {ns : List Nat} {xss : List (List Value)} (h : SrcsLam w vs ns xss) (hb : Below w.heap.size w w') : SrcsLam w' vs ns xss :=
  ⟨h.1, h.2.1, fun j v n xs h1 h2 h3 => ⟨(h.2.2 j v n xs h1 h2 h3).1.below hb, (h.2.2 j v n xs h1 h2 h3).2⟩⟩

theorem sum_take_leLam (ns : List Nat) (k : Nat) : (ns.take k).sum ≤ ns.sum := by
  induction ns generalizing k with
  | nil => simp
  | cons n ns ih =>
    cases k with
    | zero => simp
    | succ k => simp; exact ih k
theorem sum_take_succLam (ns : List Nat) (k n : Nat) (h : ns[k]? = some n) : (ns.take (k + 1)).sum = (ns.take k).sum + n := by
  rw [List.take_add_one, h]; simp

set_option maxRecDepth 100000 in
set_option maxHeartbeats 1000000 in
theorem concatLam_any (g off c : Nat) (vs : List Value) (ns : List Nat) (xss : List (List Value)) (w : World) (hs : Sl w g off vs) (hv : SrcsLam w vs ns xss) (hn : ns.sum ≤ 8388608) (hl : ns.length ≤ 1048576) :
    Calls Tryz.prog 111 #[.slice (some ⟨g, off, none⟩) ns.length c] w fun e w' => ∃ v, e = .returned v ∧ w'.ownsRow w.heap.size 45 2 v ns.sum xss.flatten ∧ Below w.heap.size w w' ∧ (v = .slice none 0 0 → ns.sum = 0) := by
  obtain ⟨m, hm⟩ : ∃ m, m = ns.length := ⟨_, rfl⟩
  rw [← hm] at hl ⊢
  have HM := Lib.hid hm
  clear hm
  go_enter Tryz.func111, Tryz.ntmps111
  go_wp2_with fail
  go_loop [3, 11] (fun sz i => ∃ k s : Nat, k ≤ m ∧ i = .int .i64 k ∧ sz = .int .i64 s ∧ s ≤ 8388608 ∧ Hid (s = (ns.take k).sum)) (fun _ i => m - (intOf i).toNat)
  case atStart => exact ⟨0, 0, Nat.zero_le _, rfl, rfl, by omega, by simp [Hid]⟩
  case round =>
    obtain ⟨k, s, hk, rfl, rfl, hs8, HS⟩ := hrel
    by_cases hlt : k < m
    · obtain ⟨v, hv1⟩ : ∃ v, vs[k]? = some v := ⟨_, List.getElem?_eq_getElem (by have := hv.2.1; have := HM.out; omega)⟩
      obtain ⟨n1, hn1⟩ : ∃ n1, ns[k]? = some n1 := ⟨_, List.getElem?_eq_getElem (by have := HM.out; omega)⟩
      obtain ⟨x1, hx1⟩ : ∃ x1, xss[k]? = some x1 := ⟨_, List.getElem?_eq_getElem (by have := hv.1; have := hv.2.1; have := HM.out; omega)⟩
      obtain ⟨hsrc, _⟩ := hv.2.2 k v n1 x1 hv1 hn1 hx1
      have hca := hs.at hv1
      obtain ⟨A, c1, rfl⟩ := hsrc.form
      have hsum : (ns.take k).sum + n1 ≤ 8388608 := by rw [← sum_take_succLam ns k n1 hn1]; exact Nat.le_trans (sum_take_leLam _ _) hn
      have hle : s + n1 ≤ 8388608 := by rw [HS.out]; exact hsum
      have HN := Lib.hid hn1
      clear hv1 hn1 hx1 hsum hsrc
      go_wp2_with fail
      go_round
      case rel => exact ⟨k + 1, s + n1, by omega, by go_num, by go_num, hle, by rw [HS.out, sum_take_succLam ns k n1 HN.out]; rfl⟩
      case measure => simp [intOf]; omega
    · have hkm : k = m := by omega
      have HS2 : Hid (s = ns.sum) := by have := HS.out; rw [hkm, HM.out, List.take_length] at this; exact this
      clear hkm
      go_wp2_with fail
      refine (growNilLam_any s w hs8).mono ?_
      rintro e w1 ⟨v1, rfl, hown1, hB1, hnil1⟩
      have HNIL := Lib.hid hnil1
      clear hnil1
      go_wp2_with fail
      go_loopw [6, 27] (fun v i wr => ∃ k : Nat, k ≤ m ∧ i = .int .i64 k ∧ wr.ownsRow w.heap.size 45 2 v (ns.take k).sum (xss.take k).flatten ∧ Below w.heap.size w wr ∧ Hid (v = .slice none 0 0 → s = 0)) (fun _ i _ => m - (intOf i).toNat)
      case atStart => exact ⟨0, Nat.zero_le _, rfl, by simpa using hown1, hB1, HNIL.out⟩
      case round =>
        obtain ⟨k, hk, rfl, hown, hB, HV⟩ := hrel
        by_cases hlt : k < m
        · obtain ⟨v, hv1⟩ : ∃ v, vs[k]? = some v := ⟨_, List.getElem?_eq_getElem (by have := hv.2.1; have := HM.out; omega)⟩
          obtain ⟨n1, hn1⟩ : ∃ n1, ns[k]? = some n1 := ⟨_, List.getElem?_eq_getElem (by have := HM.out; omega)⟩
          obtain ⟨x1, hx1⟩ : ∃ x1, xss[k]? = some x1 := ⟨_, List.getElem?_eq_getElem (by have := hv.1; have := hv.2.1; have := HM.out; omega)⟩
          obtain ⟨hsrc, hone⟩ := (hv.below hB).2.2 k v n1 x1 hv1 hn1 hx1
          have hca := (hs.below' hB).at hv1
          have hsum : (ns.take k).sum + n1 ≤ 8388608 := by rw [← sum_take_succLam ns k n1 hn1]; exact Nat.le_trans (sum_take_leLam _ _) hn
          have HN := Lib.hid hn1; have HX := Lib.hid hx1
          clear hv1 hn1 hx1
          go_wp2_with (at_builtin; refine wpList_appx rfl _ _ _ rfl Tryz.underlying24 infoLam rfl (by omega) w.heap.size hown hB.size rfl hsrc rfl hone (by unfold maxLen; omega) (by omega) ?_; intro v2 w2 hown2 hg2 hnil2; have hB2 := grown_below hB hown (Nat.le_refl _) hg2; have HNIL2 := Lib.hid hnil2; clear hnil2)
          go_roundw
          case rel => exact ⟨k + 1, by omega, by go_num, by rw [sum_take_succLam ns k n1 HN.out, List.take_add_one, HX.out, List.flatten_append]; simpa using hown2, hB2, fun e => HV.out (HNIL2.out e).1⟩
          case measure => simp [intOf]; omega
        · have hkm : k = m := by omega
          have e1 : (ns.take k).sum = ns.sum := by rw [hkm, HM.out, List.take_length]
          have e2 : (xss.take k) = xss := by rw [hkm, HM.out, List.take_of_length_le (by have := hv.1; have := hv.2.1; omega)]
          rw [e1, e2] at hown
          clear hkm e1 e2
          go_wp2_with fail
          go_ret
          exact ⟨_, rfl, hown, hB, fun e => by have h1 := HV.out e; have h2 := HS2.out; omega⟩
end Go.Proofs.YtkiaclajjlidoaaGreatDoor

/- The builtin copy on rows of records; the row behind it is a variable's. Plain laws. -/
namespace Go.Proofs.YtkiaclajjlidoaaGreatDoor
open Go.RowKit
set_option linter.all false

section
variable {P : Program}
theorem run_copy_rows (w : World) (dT sT ty elem : TypeId) (g o dLen dCap : Nat) (a : Addr) (sLen sCap s m : Nat) (cur : Array Value) (t : TypeId) (cs : List Value)
    (hu : P.underlying dT = some (.slice elem)) (hs : (P.info? elem).map (·.size) = some s)
    (hg : w.heap[g]? = some (.cells cur t (0, 0))) (hm : Nat.min sLen dLen = m) (hn : cs.length = m * s)
    (hsrc : ∀ j v, cs[j]? = some v → w.cell? (a.add j) = some v) (hfit : o + cs.length ≤ cur.size) (h1 : ∀ v ∈ cs, v.oneCell' = true) :
    (Builtin.copy_ #[dT, sT] ty #[.slice (some ⟨g, o, none⟩) dLen dCap, .slice (some a) sLen sCap]).run P w =
      .ok (goInt m) (w.setRow g (cur.toList.take o ++ cs ++ cur.toList.drop (o + cs.length)).toArray) := by
  have hl := run_loadCells_list (P := P) w a cs hsrc
  have hst := run_storeCells_at P g o t cs 0 cur w hg (by simpa using hfit) h1
  cases hq : P.info? elem with
  | none => simp [hq] at hs
  | some i =>
    have hi : i.size = s := by simpa [hq] using hs
    simp [Builtin.copy_, run_underlying hu, Builtin.lenOf, Builtin.firstCells, sizeOf, typeInfo, hq, hi, hm, ← hn, hl, hst]
theorem wpList_copy_rows {w : World} {ops : Array Oper} {rest : List Oper} {o : Oper} {a : Act} {Q : Exit → Act → World → Prop} (hgd : o.guard = none) (d s : Operand) (dT sT : TypeId)
    (ho : o.op = .call { callee := .builtin .copy, args := #[d, s], argTypes := #[dT, sT] }) (elem : TypeId) (hu : P.underlying dT = some (.slice elem)) {z : Nat} (hsz : (P.info? elem).map (·.size) = some z)
    (g off dLen dCap : Nat) (ad : Addr) (sLen sCap : Nat) (hd : a.eval d = .slice (some ⟨g, off, none⟩) dLen dCap) (hs : a.eval s = .slice (some ad) sLen sCap)
    (cur : List Value) (t : TypeId) (hg : w.heap[g]? = some (.cells cur.toArray t (0, 0))) (m : Nat) (hm : Nat.min sLen dLen = m) (cs : List Value) (hn : cs.length = m * z)
    (hsrc : ∀ j v, cs[j]? = some v → w.cell? (ad.add j) = some v) (hfit : off + cs.length ≤ cur.length) (h1 : ∀ v ∈ cs, v.oneCell' = true) (B : Nat) (w0 : World) (hb : Below B w0 w) (hBg : B ≤ g)
    (h : ∀ w', Hid (w'.heap[g]? = some (.cells (cur.take off ++ cs ++ cur.drop (off + cs.length)).toArray t (0, 0))) → Below B w0 w' → wpList P ops Q rest (a.put o.dst (goInt m)) w') : wpList P ops Q (o :: rest) a w := by
  refine wpList_plain hgd fun K hK => ?_
  have hrun := run_copy_rows (P := P) w dT sT o.type elem g off dLen dCap ad sLen sCap z m cur.toArray t cs hu hsz hg hm hn hsrc (by simpa using hfit) h1
  unfold Oper.wp
  simp [execOp, ho, resolve, invoke, builtin, hd, hs, hrun, Result.andThen]
  refine hK _ _ (h _ ?_ (below_setRow hb hBg _))
  have := setRow_heap w g _ (cur.take off ++ (cs ++ cur.drop (off + cs.length))).toArray t _ hg
  simpa [Hid] using this
theorem step_copy_rows {w : World} {ops : Array Oper} {o : Oper} {a : Act} {K : Act → World → Prop} {Q : Exit → Act → World → Prop} {E : Prop} (hgd : o.guard = none) (d s : Operand) (dT sT : TypeId)
    (ho : o.op = .call { callee := .builtin .copy, args := #[d, s], argTypes := #[dT, sT] }) (elem : TypeId) (hu : P.underlying dT = some (.slice elem)) {z : Nat} (hsz : (P.info? elem).map (·.size) = some z)
    (g off dLen dCap : Nat) (ad : Addr) (sLen sCap : Nat) (hd : a.eval d = .slice (some ⟨g, off, none⟩) dLen dCap) (hs : a.eval s = .slice (some ad) sLen sCap)
    (cur : List Value) (t : TypeId) (hg : w.heap[g]? = some (.cells cur.toArray t (0, 0))) (m : Nat) (hm : Nat.min sLen dLen = m) (cs : List Value) (hn : cs.length = m * z)
    (hsrc : ∀ j v, cs[j]? = some v → w.cell? (ad.add j) = some v) (hfit : off + cs.length ≤ cur.length) (h1 : ∀ v ∈ cs, v.oneCell' = true) (B : Nat) (w0 : World) (hb : Below B w0 w) (hBg : B ≤ g)
    (h : ∀ w', Hid (w'.heap[g]? = some (.cells (cur.take off ++ cs ++ cur.drop (off + cs.length)).toArray t (0, 0))) → Below B w0 w' → K (a.put o.dst (goInt m)) w') :
    if Region.wanted o (yielded ops a.tmps) = true then Oper.wp P o a w K Q else E := by
  have hw : Region.wanted o (yielded ops a.tmps) = true := by simp [Region.wanted, hgd]
  rw [if_pos hw]
  have hrun := run_copy_rows (P := P) w dT sT o.type elem g off dLen dCap ad sLen sCap z m cur.toArray t cs hu hsz hg hm hn hsrc (by simpa using hfit) h1
  unfold Oper.wp
  simp [execOp, ho, resolve, invoke, builtin, hd, hs, hrun, Result.andThen]
  refine h _ ?_ (below_setRow hb hBg _)
  have := setRow_heap w g _ (cur.take off ++ (cs ++ cur.drop (off + cs.length))).toArray t _ hg
  simpa [Hid] using this
end
/-- 'x[l:]': one address, whether room is left or not. -/
theorem run_slice_tailR {P : Program} (t e : TypeId) {z : Value} {s bytes : Nat} (ht : P.underlying t = some (.slice e)) (hinfo : (P.info? e).map (fun i => (i.zero, i.size, i.bytes)) = some (some z, s, bytes))
    (b off n c l : Nat) (i : Int) (hi : i = l) (hh : l ≤ n) (hc : n ≤ c) :
    ∃ o', (n - l = 0 ∨ o' = off + l * s) ∧ ∀ W, (Instr.slice t (.slice (some ⟨b, off, none⟩) n c) (some (.int .i64 i)) none none).run P W = .ok (.slice (some ⟨b, o', none⟩) (n - l) (c - l)) W := by
  obtain ⟨ti, hti, hz, hsize, hb⟩ := info_parts hinfo
  have he : P.elem t = e := by simp [Program.elem, ht]
  refine ⟨if c = l then off else off + l * s, ?_, fun W => ?_⟩
  · by_cases h0 : c = l
    · exact .inl (by omega)
    · exact .inr (by rw [if_neg h0])
  · rw [run_slice_l W t (some ⟨b, off, none⟩) n c (by rw [he]; exact ht) .i64 i (by omega) (by omega)]
    subst hi
    have hsz : ∀ W, (sizeOf (P.elem t)).run P W = .ok s W := by intro W; rw [he]; simp [sizeOf, typeInfo, hti, hsize]
    rw [hsz]
    simp only [Result.andThen, sliced, Int.toNat_natCast]
    by_cases h0 : c = l
    · simp [h0]
    · simp only [if_neg h0, Option.map_some]
      rw [addr_add]

/-- A row known by its block is owned. -/
theorem own_of_block {w : World} {base g n cap : Nat} {t : TypeId} {s : Nat} {xs : List Value} (h : w.heap[g]? = some (.cells xs.toArray t (0, 0))) (hb : base ≤ g) (hs : xs.length = cap * s) (hn : n ≤ cap) (hm : cap ≤ maxLen) : w.ownsRow base t s (.slice (some ⟨g, 0, none⟩) n cap) n (xs.take (n * s)) := by
  refine ⟨?_, .inr ⟨g, cap, xs.toArray, rfl, hb, h, hn, hm, by simpa using hs, by simp⟩⟩
  rw [List.length_take, hs]
  have : n * s ≤ cap * s := Nat.mul_le_mul_right _ hn
  omega
theorem made_zero2 (m : Nat) : madeCells (Value.cells (.agg #[.int .i64 0, .int .i64 0])) (m * 2) = (rows R2.vs (List.replicate m (⟨0, 0⟩ : R2))).toArray := by
  apply Array.ext
  · rw [size_madeCells]; simp [rows_len R2.vs_len]
  · intro i h1 h2
    have hi : i < m * 2 := by rw [size_madeCells] at h1; exact h1
    have e1 : (madeCells (Value.cells (.agg #[.int .i64 0, .int .i64 0])) (m * 2))[i] = .int .i64 0 := by
      have hm : i % 2 = 0 ∨ i % 2 = 1 := by omega
      rcases hm with hm | hm <;> simp [madeCells, Value.cells, hm]
    have e2 : (rows R2.vs (List.replicate m (⟨0, 0⟩ : R2)))[i]? = some (.int .i64 0) := by
      have hq : i / 2 < m := by omega
      have hx : (List.replicate m (⟨0, 0⟩ : R2))[i / 2]? = some ⟨0, 0⟩ := by simp [hq]
      have hr := rows_at R2.vs_len hx (j := i % 2) (by omega)
      rw [show i / 2 * 2 + i % 2 = i by omega] at hr
      rw [hr]
      have hm : i % 2 = 0 ∨ i % 2 = 1 := by omega
      rcases hm with hm | hm <;> simp [R2.vs, hm]
    rw [e1]
    simp only [List.getElem_toArray]
    have := List.getElem?_eq_some_iff.1 e2
    exact this.2.symm
end Go.Proofs.YtkiaclajjlidoaaGreatDoor

/- Library functions on rows of Lam: IndexFunc, ContainsFunc with whatever function value, Clone; size. -/
namespace Go.Proofs.YtkiaclajjlidoaaGreatDoor
open Go.RowKit
set_option linter.all false

theorem one_rows_Lam (xs : List R2) : ∀ u ∈ rows R2.vs xs, u.oneCell' = true := by
  intro u hu
  simp only [rows, List.mem_flatMap, R2.vs] at hu
  obtain ⟨x, _, hu⟩ := hu
  simp at hu
  rcases hu with rfl | rfl <;> rfl

set_option maxRecDepth 100000 in
theorem sizeOf_Lam_any (A : Option Addr) (n c : Nat) (w : World) : Calls Tryz.prog 70 #[.slice A n c] w fun e w' => e = .returned (.int .i64 n) ∧ w = w' := by
  go_enter Tryz.func70, Tryz.ntmps70
  go_wp2
  go_ret
  exact ⟨rfl, rfl⟩

set_option maxRecDepth 100000 in
set_option maxHeartbeats 400000 in
theorem indexFuncAt_Lam (F : FuncId) (caps : Array Value) (p : R2 → Bool) (A : Option Addr) (n c : Nat) (xs : List R2) (w : World) (ha : Args 2 w A n (rows R2.vs xs)) (hn : n ≤ 1048576)
    (hE : ∀ (args : Array Value) (W : World), (callFunc F args).run Tryz.prog W = .ok (.enter F args) W) (hF : Hid (∀ x v W, x ∈ xs → p x = v → Below w.heap.size w W → Calls Tryz.prog F (#[.agg #[.int .i64 x.a, .int .i64 x.b]] ++ caps) W fun e w' => e = .returned (.bool v) ∧ Below W.heap.size W w')) :
    Calls Tryz.prog 91 #[.slice A n c, .func (.func F) #[] caps] w fun e w' => e = .returned (.int .i64 (findI p xs)) ∧ Below w.heap.size w w' := by
  have HL : Hid (xs.length = n) := by have := ha.1; rw [rows_len R2.vs_len] at this; unfold Hid; omega
  go_enter Tryz.func91, Tryz.ntmps91
  go_wp2
  go_loopw [8] (fun i wr => ∃ k : Nat, k ≤ n ∧ i = .int .i64 k ∧ Below w.heap.size w wr ∧ Hid (∀ j x, j < k → xs[j]? = some x → p x = false)) (fun i _ => n - (intOf i).toNat)
  case atStart => exact ⟨0, Nat.zero_le _, rfl, Below.refl _ _, by intro j x hj; omega⟩
  case round =>
    obtain ⟨k, hk, rfl, hB, HR⟩ := hrel
    by_cases hlt : k < n
    · obtain ⟨x, HX⟩ := hget HL hlt
      obtain ⟨b, off, rfl, hs⟩ := ha.sl hlt
      obtain ⟨p0, p1⟩ := (hs.below' hB).rec2 HX.out
      rcases Bool.eq_false_or_eq_true (p x) with hv | hv
      · have HV := Lib.hid hv; clear hv
        go_wp2_with fail
        refine (hF.out x true _ (List.mem_of_getElem? HX.out) HV.out hB).mono ?_
        rintro e w1 ⟨rfl, hb1⟩
        have hB1 := below_step hB hb1
        clear hb1 p0 p1
        go_wp2
        go_ret
        exact ⟨ret_int (findI_some HR.out HX.out HV.out).symm, hB1⟩
      · have HV := Lib.hid hv; clear hv
        go_wp2_with fail
        refine (hF.out x false _ (List.mem_of_getElem? HX.out) HV.out hB).mono ?_
        rintro e w1 ⟨rfl, hb1⟩
        have hB1 := below_step hB hb1
        clear hb1 p0 p1
        go_wp2
        go_roundw
        case rel => exact ⟨k + 1, by omega, by go_num, hB1, by
          intro j y hj hy
          by_cases ej : j = k
          · subst ej; rw [HX.out] at hy; injection hy with hy; subst hy; exact HV.out
          · exact HR.out j y (by omega) hy⟩
        case measure => simp [intOf]; omega
    · go_wp2
      go_ret
      refine ⟨ret_int ?_, hB⟩
      rw [findI_none]
      intro j x hx
      exact HR.out j x (by have := (List.getElem?_eq_some_iff.1 hx).1; have := HL.out; omega) hx

set_option maxRecDepth 100000 in
theorem containsFuncAt_Lam (F : FuncId) (caps : Array Value) (p : R2 → Bool) (A : Option Addr) (n c : Nat) (xs : List R2) (w : World) (ha : Args 2 w A n (rows R2.vs xs)) (hn : n ≤ 1048576)
    (hE : ∀ (args : Array Value) (W : World), (callFunc F args).run Tryz.prog W = .ok (.enter F args) W) (hF : Hid (∀ x v W, x ∈ xs → p x = v → Below w.heap.size w W → Calls Tryz.prog F (#[.agg #[.int .i64 x.a, .int .i64 x.b]] ++ caps) W fun e w' => e = .returned (.bool v) ∧ Below W.heap.size W w')) (v : Bool) (hv : xs.any p = v) :
    Calls Tryz.prog 71 #[.slice A n c, .func (.func F) #[] caps] w fun e w' => e = .returned (.bool v) ∧ Below w.heap.size w w' := by
  have HV : Hid (decide (0 ≤ findI p xs) = v) := by unfold Hid; rw [findI_any, hv]
  clear hv
  rcases Bool.eq_false_or_eq_true (decide (0 ≤ findI p xs)) with hv | hv
  · have h0 : 0 ≤ findI p xs := of_decide_eq_true hv
    have HW := Lib.hid (hv.symm.trans HV.out); clear hv
    go_enter Tryz.func71, Tryz.ntmps71
    go_wp2_with fail
    refine (indexFuncAt_Lam F caps p A n c xs _ ha hn hE hF).mono ?_
    rintro e w1 ⟨rfl, hb1⟩
    go_wp2
    go_ret
    exact ⟨ret_bool (by first | exact HW.out | (rw [← HW.out]; simp; omega)), hb1⟩
  · have h0 : findI p xs < 0 := by have := of_decide_eq_false hv; omega
    have HW := Lib.hid (hv.symm.trans HV.out); clear hv
    go_enter Tryz.func71, Tryz.ntmps71
    go_wp2_with fail
    refine (indexFuncAt_Lam F caps p A n c xs _ ha hn hE hF).mono ?_
    rintro e w1 ⟨rfl, hb1⟩
    go_wp2
    go_ret
    exact ⟨ret_bool (by first | exact HW.out | (rw [← HW.out]; simp; omega)), hb1⟩

end Go.Proofs.YtkiaclajjlidoaaGreatDoor

/- slices.Repeat of one element, and applied: elements impl.Lam. -/
namespace Go.Proofs.YtkiaclajjlidoaaGreatDoor
open Go.RowKit
set_option linter.all false

theorem mulOneLam_any (m : Nat) (w : World) (hm : m ≤ 1048576) : Calls Tryz.prog 97 #[.int .u64 1, .int .u64 (m : Int)] w fun e w' => e = .returned (.tuple #[.int .u64 0, .int .u64 (m : Int)]) ∧ w = w' := by
  have h := Any.bits_Mul Tryz.layMul 1 m (by omega) (by omega) w
  refine h.mono ?_
  rintro e w' ⟨rfl, rfl⟩
  have h1 : 1 * m / 18446744073709551616 = 0 := by omega
  have h2 : 1 * m % 18446744073709551616 = m := by omega
  rw [h1, h2]
  exact ⟨rfl, rfl⟩

/-- n times app, the rest zeros. -/
def partLam (app : R2) (n m : Nat) : List Value := rows R2.vs (List.replicate n app ++ List.replicate (m - n) ⟨0, 0⟩)
theorem partLam_len (app : R2) (n m : Nat) (h : n ≤ m) : (partLam app n m).length = m * 2 := by
  unfold partLam; rw [rows_len R2.vs_len]; simp; omega
theorem partLam_copy (app : R2) (n k m : Nat) (h : n + k ≤ m) : (partLam app n m).take (n * 2) ++ rows R2.vs (List.replicate k app) ++ (partLam app n m).drop (n * 2 + (rows R2.vs (List.replicate k app)).length) = partLam app (n + k) m := by
  unfold partLam
  have hl : (rows R2.vs (List.replicate k app)).length = k * 2 := by rw [rows_len R2.vs_len]; simp
  rw [hl, show n * 2 + k * 2 = (n + k) * 2 by omega, rows_take R2.vs_len, rows_drop R2.vs_len, ← rows_app, ← rows_app]
  congr 1
  rw [List.take_append_of_le_length (by simp), List.take_of_length_le (by simp)]
  rw [List.drop_append, List.drop_of_length_le (by simp)]
  simp only [List.length_replicate, List.nil_append, List.drop_replicate]
  rw [List.replicate_append_replicate]
  congr 2
  omega
theorem partLam_at (app : R2) (n m : Nat) {w : World} {g : Nat} (h : w.heap[g]? = some (.cells (partLam app n m).toArray 45 (0, 0))) (k : Nat) (hk : k ≤ n) : ∀ j v, (rows R2.vs (List.replicate k app))[j]? = some v → w.cell? ((⟨g, 0, none⟩ : Addr).add j) = some v := by
  intro j v hv
  rw [addr_add, Nat.zero_add]
  have hj : j < k * 2 := by have := (List.getElem?_eq_some_iff.1 hv).1; rw [rows_len R2.vs_len] at this; simpa using this
  have h2 : (partLam app n m)[j]? = some v := by
    unfold partLam
    rw [rows_app, List.getElem?_append_left (by rw [rows_len R2.vs_len]; simp; omega)]
    have : List.replicate n app = List.replicate k app ++ List.replicate (n - k) app := by rw [List.replicate_append_replicate]; congr 1; omega
    rw [this, rows_app, List.getElem?_append_left (by rw [rows_len R2.vs_len]; simp; omega)]
    exact hv
  rw [cell_of_heap h]
  simpa using h2

set_option maxRecDepth 100000 in
set_option maxHeartbeats 1000000 in
theorem repeatLam_any (b off c m : Nat) (app : R2) (w : World) (hs : Sl w b off (rows R2.vs [app])) (hm : m ≤ 1048576) :
    Calls Tryz.prog 79 #[.slice (some ⟨b, off, none⟩) 1 c, .int .i64 m] w fun e w' => ∃ v, e = .returned v ∧ w'.ownsRow w.heap.size 45 2 v m (rows R2.vs (List.replicate m app)) ∧ Below w.heap.size w w' := by
  have hp0 : rows R2.vs (List.replicate m (⟨0, 0⟩ : R2)) = partLam app 0 m := by unfold partLam; simp
  have hmk := fun W => run_make_rows (P := Tryz.prog) 24 45 _ 2 16 Tryz.underlying24 infoLam .i64 .i64 m (by omega) (by omega) W
  simp only [made_zero2, hp0] at hmk
  clear hp0
  have HMU := Lib.hid (mulOneLam_any m)
  have HI : Hid ((Tryz.prog.info? 45).map (·.size) = some 2) := by unfold Hid; obtain ⟨i, h1, _, h3, _⟩ := info_parts infoLam; rw [h1]; simp [h3]
  obtain ⟨k1, HK, hk1, hk2, hk3⟩ : ∃ k1, Hid (Nat.min 1 m = k1) ∧ k1 ≤ 1 ∧ k1 ≤ m ∧ (0 < m → 0 < k1) := ⟨Nat.min 1 m, rfl, Nat.min_le_left _ _, Nat.min_le_right _ _, fun h => by show 0 < min 1 m; omega⟩
  have HLN : Hid (∀ k, (rows R2.vs (List.replicate k app)).length = k * 2) := by intro k; rw [rows_len R2.vs_len]; simp
  have HPL : Hid (∀ k, k ≤ m → (partLam app k m).length = m * 2) := fun k h => partLam_len app k m h
  have HONE : Hid (∀ k, ∀ u ∈ rows R2.vs (List.replicate k app), u.oneCell' = true) := fun k => one_rows_Lam _
  have HSRC : Hid (∀ W : World, Below w.heap.size w W → ∀ j v, (rows R2.vs (List.replicate k1 app))[j]? = some v → W.cell? ((⟨b, off, none⟩ : Addr).add j) = some v) := by
    intro W hW j v hv
    rw [addr_add]
    refine (hs.below' hW).at ?_
    have h01 : k1 = 0 ∨ k1 = 1 := by omega
    rcases h01 with rfl | rfl
    · simp [rows] at hv
    · exact hv
  have hb0 := laid_below w (.cells (partLam app 0 m).toArray 45)
  go_enter Tryz.func79, Tryz.ntmps79
  go_wp2_with fail
  refine (HMU.out _ hm).mono ?_
  rintro e w1 ⟨rfl, hw1⟩
  subst hw1
  clear HMU
  go_wp2_with (refine wpList_copy_rows (o := ⟨some 33, _, _, _, _, _⟩) rfl (.tmp 31) (.tmp 32) 24 24 rfl 45 Tryz.underlying24 HI.out w.heap.size (0 * 2) m m ⟨b, off, none⟩ 1 c rfl rfl (partLam app 0 m) 45 (heap_alloc_new _ _) k1 HK.out (rows R2.vs (List.replicate k1 app)) (HLN.out k1) (HSRC.out _ hb0) (by rw [HLN.out, HPL.out 0 (by omega)]; omega) (HONE.out k1) w.heap.size w hb0 (Nat.le_refl _) ?_; intro w2 HG2 hB2; clear hmk)
  rw [partLam_copy app 0 k1 m (by omega), Nat.zero_add] at HG2
  go_loopw [8] (fun i wr => ∃ n, n ≤ m ∧ (0 < m → 0 < n) ∧ i = .int .i64 (n : Nat) ∧ Below w.heap.size w wr ∧ Hid (wr.heap[w.heap.size]? = some (.cells (partLam app n m).toArray 45 (0, 0)))) (fun i _ => m - (intOf i).toNat)
  case atStart => exact ⟨k1, hk2, hk3, rfl, hB2, HG2⟩
  case round =>
    obtain ⟨n, hn, hn0, rfl, hB, HG⟩ := hrel
    clear HG2 hB2 hk3
    by_cases hlt : n < m
    · have hn1 : 0 < n := hn0 (by omega)
      obtain ⟨o', ho', hsl⟩ := run_slice_tailR (P := Tryz.prog) 24 45 Tryz.underlying24 infoLam w.heap.size 0 m m n (n : Int) rfl (by omega) (by omega)
      have ho2 : o' = n * 2 := by omega
      subst ho2
      clear ho' hn0
      obtain ⟨k2, HK2, hk4, hk5, hk6⟩ : ∃ k2, Hid (Nat.min n (m - n) = k2) ∧ k2 ≤ n ∧ n + k2 ≤ m ∧ 0 < k2 := ⟨Nat.min n (m - n), rfl, Nat.min_le_left _ _, by have : Nat.min n (m - n) ≤ m - n := Nat.min_le_right _ _; omega, by show 0 < min n (m - n); omega⟩
      have e1 : (n : Int) ≤ (m : Int) := by omega
      have e2 : 0 ≤ (n : Int) := by omega
      have w9 : IntKind.i64.wrap ((n : Int) + (k2 : Int)) = (n : Int) + (k2 : Int) := IntWalk.i64_in _ (by omega)
      go_wp2
      go_region_held3 (fun _ => True) (trivial) ((refine step_copy_rows (by rfl) _ _ _ _ (by rfl) 45 Tryz.underlying24 HI.out w.heap.size (n * 2) (m - n) (m - n) ⟨w.heap.size, 0, none⟩ n m (by rfl) (by rfl) (partLam app n m) 45 (by exact HG.out) k2 HK2.out (rows R2.vs (List.replicate k2 app)) (HLN.out k2) (by exact partLam_at app n m HG.out k2 hk4) (by rw [HLN.out, HPL.out n (by omega)]; omega) (HONE.out k2) w.heap.size w (by exact hB.drew) (Nat.le_refl _) ?_; intro w3 HG3 hB3))
      all_goals
        rw [partLam_copy app n k2 m hk5] at HG3
        clear w9
        go_wp2
        go_roundw
        case rel => exact ⟨n + k2, hk5, by omega, by go_num, hB3, HG3⟩
        case measure => simp [intOf]; omega
    · obtain rfl : m = n := by omega
      have hown := own_of_block (s := 2) (n := m) HG.out (Nat.le_refl w.heap.size) (HPL.out m (Nat.le_refl _)) (Nat.le_refl _) (by unfold maxLen; omega)
      have hpm : partLam app m m = rows R2.vs (List.replicate m app) := by unfold partLam; simp
      rw [List.take_of_length_le (by rw [HPL.out m (Nat.le_refl _)]; exact Nat.le_refl _), hpm] at hown
      go_wp2
      go_ret
      exact ⟨_, rfl, hown, hB⟩
end Go.Proofs.YtkiaclajjlidoaaGreatDoor

/- Slices of records of two numbers in the cells of another slice. -/
namespace Go.Proofs.YtkiaclajjlidoaaGreatDoor
open Go.RowKit
set_option linter.all false
/-- Slices of records in the cells of another slice. -/
def Rws (w : World) (vs : List Value) (ts : List (List R2)) : Prop :=
  vs.length = ts.length ∧ ∀ (j : Nat) (v : Value) (t : List R2), vs[j]? = some v → ts[j]? = some t → Src 2 w v t.length (rows R2.vs t) ∧ t.length ≤ 1048576
theorem Rws.below {w w' : World} {vs : List Value} {ts : List (List R2)} (h : Rws w vs ts) (hb : Below w.heap.size w w') : Rws w' vs ts :=
  ⟨h.1, fun j v t h1 h2 => by obtain ⟨hs, hl⟩ := h.2 j v t h1 h2; exact ⟨hs.below hb, hl⟩⟩
end Go.Proofs.YtkiaclajjlidoaaGreatDoor

/- applied: the application of a term to others, elements impl.Lam. -/
namespace Go.Proofs.YtkiaclajjlidoaaGreatDoor
open Go.RowKit
set_option linter.all false

theorem srcsLam_of_rws {w : World} {vs : List Value} {ts : List (List R2)} (h : Rws w vs ts) : SrcsLam w vs (ts.map List.length) (ts.map (rows R2.vs)) := by
  refine ⟨by simp [h.1], by simp [h.1], fun j v n xs h1 h2 h3 => ?_⟩
  rw [List.getElem?_map] at h2 h3
  cases ht : ts[j]? with
  | none => rw [ht] at h2; simp at h2
  | some t =>
    rw [ht] at h2 h3
    simp at h2 h3
    subst h2 h3
    exact ⟨(h.2 j v t h1 ht).1, one_rows_Lam t⟩
theorem sum_lengthsLam (ts : List (List R2)) : (ts.map List.length).sum = ts.flatten.length := by simp [List.length_flatten]
theorem rows_flattenLam (ts : List (List R2)) : (ts.map (rows R2.vs)).flatten = rows R2.vs ts.flatten := by
  induction ts with
  | nil => rfl
  | cons t ts ih => rw [List.map_cons, List.flatten_cons, List.flatten_cons, rows_app, ih]

set_option maxRecDepth 100000 in
set_option maxHeartbeats 1000000 in
theorem appliedLam_any (app : R2) (A : Option Addr) (n c : Nat) (t : List R2) (g off m c2 : Nat) (vs : List Value) (ts : List (List R2)) (w : World) (ht : Src 2 w (.slice A n c) n (rows R2.vs t)) (hs : Sl w g off vs) (hv : Rws w vs ts) (hm : ts.length = m) (hm1 : m ≤ 1048576) (hn : n ≤ 1048576) (hsum : ts.flatten.length ≤ 4194304) :
    Calls Tryz.prog 98 #[.agg #[.int .i64 app.a, .int .i64 app.b], .slice A n c, .slice (some ⟨g, off, none⟩) m c2] w fun e w' => ∃ v, e = .returned v ∧ w'.ownsRow w.heap.size 45 2 v (m + n + ts.flatten.length) (rows R2.vs (List.replicate m app ++ t ++ ts.flatten)) ∧ Below w.heap.size w w' := by
  have HM := Lib.hid hm; clear hm
  obtain ⟨S, hS⟩ : ∃ S, S = ts.flatten.length := ⟨_, rfl⟩
  rw [← hS] at hsum ⊢
  have HS := Lib.hid hS; clear hS
  have HV := Lib.hid (srcsLam_of_rws hv); clear hv
  obtain ⟨w2, HW, hB2, hsl⟩ : ∃ w2, Hid (w2 = (w.alloc (.cells #[.int .i64 app.a, .int .i64 app.b] 45)).alloc (.cells #[.int .i64 app.a, .int .i64 app.b] 45)) ∧ Below w.heap.size w w2 ∧ Sl w2 (w.heap.size + 1) 0 (rows R2.vs [app]) := by
    refine ⟨_, rfl, ((Below.refl _ _).alloc (Nat.le_refl _) _).alloc (by simp) _, ?_⟩
    have := sl_laid (w.alloc (.cells #[.int .i64 app.a, .int .i64 app.b] 45)) #[.int .i64 app.a, .int .i64 app.b] 45
    simp at this
    exact this
  go_enter Tryz.func98, Tryz.ntmps98
  go_wp2_with fail
  rw [← HW.out]
  refine (repeatLam_any (w.heap.size + 1) 0 1 m app _ hsl hm1).mono ?_
  rintro e w3 ⟨v3, rfl, hown3, hb3⟩
  have hB3 := below_step hB2 hb3
  obtain ⟨A3, c3, rfl⟩ := own_form hown3
  clear hb3 hsl
  have hcon := concatLam_any g off c2 vs (ts.map List.length) (ts.map (rows R2.vs)) w3 (hs.below' hB3) (HV.out.below hB3) (by rw [sum_lengthsLam, ← HS.out]; omega) (by rw [List.length_map, HM.out]; exact hm1)
  rw [List.length_map, HM.out, sum_lengthsLam, ← HS.out, rows_flattenLam] at hcon
  have HC := Lib.hid hcon; clear hcon
  go_wp2_with fail
  refine HC.out.mono ?_
  rintro e w4 ⟨v4, rfl, hown4, hb4, hnil4⟩
  have hB4 := below_step hB3 hb4
  obtain ⟨A4, c4, rfl⟩ := own_form hown4
  have hs3 := (Src.of_own hown3).below hb4
  have hs4 := Src.of_own hown4
  have hst := ht.below hB4
  clear hb4 hnil4 hown3 hown4 HC
  have hb5 := laid_below w4 (.cells #[.slice A3 m c3, .slice A n c, .slice A4 S c4] 24)
  have hsl5 : Sl (w4.alloc (.cells #[.slice A3 m c3, .slice A n c, .slice A4 S c4] 24)) w4.heap.size 0 [.slice A3 m c3, .slice A n c, .slice A4 S c4] := sl_laid w4 _ _
  have hv5 : SrcsLam (w4.alloc (.cells #[.slice A3 m c3, .slice A n c, .slice A4 S c4] 24)) [.slice A3 m c3, .slice A n c, .slice A4 S c4] [m, n, S] [rows R2.vs (List.replicate m app), rows R2.vs t, rows R2.vs ts.flatten] := by
    refine ⟨rfl, rfl, fun j v n' xs h1 h2 h3 => ?_⟩
    match j, h1, h2, h3 with
    | 0, h1, h2, h3 =>
      simp at h1 h2 h3; subst h1 h2 h3
      exact ⟨hs3.below hb5, one_rows_Lam _⟩
    | 1, h1, h2, h3 =>
      simp at h1 h2 h3; subst h1 h2 h3
      exact ⟨hst.below hb5, one_rows_Lam _⟩
    | 2, h1, h2, h3 =>
      simp at h1 h2 h3; subst h1 h2 h3
      exact ⟨hs4.below hb5, one_rows_Lam _⟩
    | j + 3, h1, _, _ => simp at h1
  have hcon := concatLam_any w4.heap.size 0 3 _ _ _ _ hsl5 hv5 (by simp; omega) (by simp)
  have HC5 := Lib.hid hcon; clear hcon
  go_wp2_with fail
  refine HC5.out.mono ?_
  rintro e w6 ⟨v6, rfl, hown6, hb6, hnil6⟩
  go_wp2
  go_ret
  refine ⟨_, rfl, ?_, below_step hB4 (below_step hb5 hb6)⟩
  have h7 := own_base hown6 (Nat.le_trans hB4.size hb5.size)
  rw [List.append_assoc, rows_app, rows_app]
  simp only [List.sum_cons, List.sum_nil, Nat.add_zero, List.flatten_cons, List.flatten_nil, List.append_nil] at h7
  rw [Nat.add_assoc]
  exact h7
end Go.Proofs.YtkiaclajjlidoaaGreatDoor

/- Objects that a call made: what hangs on the blocks of an interval alone; rows whose cells are rows. Plain lemmas, no conditions. -/
namespace Go.Proofs.YtkiaclajjlidoaaGreatDoor
open Go.RowKit
set_option linter.all false

/-- Of the blocks that were there only those from lo up to hi may have turned. -/
structure Touch (lo hi : Nat) (w w' : World) : Prop where
  os : w'.os = w.os
  tape : w'.tape = w.tape
  output : w'.output = w.output
  size : w.heap.size ≤ w'.heap.size
  block : ∀ k, k < w.heap.size → (k < lo ∨ hi ≤ k) → w'.heap[k]? = w.heap[k]?
theorem Touch.refl (lo hi : Nat) (w : World) : Touch lo hi w w := ⟨rfl, rfl, rfl, Nat.le_refl _, fun _ _ _ => rfl⟩
theorem Touch.trans {lo hi : Nat} {a b c : World} (h : Touch lo hi a b) (k : Touch lo hi b c) : Touch lo hi a c :=
  ⟨k.os.trans h.os, k.tape.trans h.tape, k.output.trans h.output, Nat.le_trans h.size k.size, fun i hi hn => (k.block i (Nat.lt_of_lt_of_le hi h.size) hn).trans (h.block i hi hn)⟩
theorem Touch.of_grown {lo hi : Nat} {w w' : World} {row : Option Nat} (h : w.grownBy w' row) (hr : ∀ k, row = some k → lo ≤ k ∧ k < hi) : Touch lo hi w w' :=
  ⟨h.os, h.tape, h.output, h.size, fun k hk hn => h.block k hk fun e => by have := hr k e.symm; omega⟩
theorem Touch.of_below {lo hi : Nat} {w w' : World} (h : Below w.heap.size w w') : Touch lo hi w w' := ⟨h.os, h.tape, h.output, h.size, fun k hk _ => h.block k hk⟩
theorem Touch.below {lo hi : Nat} {w w' : World} (h : Touch lo hi w w') (hl : lo ≤ w.heap.size) : Below lo w w' := ⟨h.os, h.tape, h.output, h.size, fun k hk => h.block k (by omega) (.inl hk)⟩
theorem Touch.mono {lo hi lo' hi' : Nat} {w w' : World} (h : Touch lo hi w w') (h1 : lo' ≤ lo) (h2 : hi ≤ hi') : Touch lo' hi' w w' := ⟨h.os, h.tape, h.output, h.size, fun k hk hn => h.block k hk (by omega)⟩
theorem Touch.setCell {lo hi : Nat} {a w : World} (h : Touch lo hi a w) {p : Addr} (hp : lo ≤ p.block ∧ p.block < hi) (u : Value) : Touch lo hi a (w.setCell p u) :=
  h.trans ⟨rfl, rfl, rfl, by simp [World.setCell], fun k hk hn => Below.heap_setCell _ _ _ _ (by omega)⟩
theorem below_touch {w0 w w' : World} {lo hi : Nat} (h : Below w0.heap.size w0 w) (ht : Touch lo hi w w') (hl : w0.heap.size ≤ lo) : Below w0.heap.size w0 w' :=
  h.trans ⟨ht.os, ht.tape, ht.output, ht.size, fun k hk => ht.block k (Nat.lt_of_lt_of_le hk h.size) (.inl (by omega))⟩

/-- P hangs on the blocks from lo up to hi alone. -/
def Dep (lo hi : Nat) (P : World → Prop) : Prop := ∀ w w' : World, P w → (∀ k, lo ≤ k → k < hi → w'.heap[k]? = w.heap[k]?) → P w'
/-- An object whose blocks lie in an interval. -/
structure Held (lo hi : Nat) (P : World → Prop) (w : World) : Prop where
  le : hi ≤ w.heap.size
  is : P w
  dep : Dep lo hi P
section
variable {lo hi : Nat} {P Q : World → Prop} {w w' : World}
theorem Held.below (h : Held lo hi P w) (hb : Below w.heap.size w w') : Held lo hi P w' :=
  ⟨Nat.le_trans h.le hb.size, h.dep _ _ h.is fun k _ hk => hb.block k (Nat.lt_of_lt_of_le hk h.le), h.dep⟩
theorem Held.far {a b : Nat} (h : Held lo hi P w) (ht : Touch a b w w') (hd : hi ≤ a ∨ b ≤ lo) : Held lo hi P w' :=
  ⟨Nat.le_trans h.le ht.size, h.dep _ _ h.is fun k h1 h2 => ht.block k (Nat.lt_of_lt_of_le h2 h.le) (by omega), h.dep⟩
theorem Held.wide {lo' hi' : Nat} (h : Held lo hi P w) (h1 : lo' ≤ lo) (h2 : hi ≤ hi') (h3 : hi' ≤ w.heap.size) : Held lo' hi' P w :=
  ⟨h3, h.is, fun a b ha hk => h.dep a b ha fun k k1 k2 => hk k (by omega) (by omega)⟩
end
theorem own_dep {w : World} {lo hi : Nat} {e : TypeId} {size n : Nat} {v : Value} {xs : List Value} (hv : ∀ k, v.ownBlock = some k → lo ≤ k ∧ k < hi) : Dep lo hi (fun W => W.ownsRow lo e size v n xs) := by
  intro a b h hk
  refine ⟨h.1, ?_⟩
  rcases h.2 with h0 | ⟨g, cap, cur, rfl, hb, hg, r⟩
  · exact .inl h0
  · have := hv g rfl
    exact .inr ⟨g, cap, cur, rfl, hb, (hk g this.1 this.2).trans hg, r⟩
theorem own_held {w : World} {lo : Nat} {e : TypeId} {size n : Nat} {v : Value} {xs : List Value} (h : w.ownsRow lo e size v n xs) : Held lo w.heap.size (fun W => W.ownsRow lo e size v n xs) w :=
  ⟨Nat.le_refl _, h, own_dep (w := w) h.lt⟩
theorem own_blocks {lo hi : Nat} {w0 w : World} {e : TypeId} {size n : Nat} {v : Value} {xs : List Value} (h : w0.ownsRow lo e size v n xs) (hw : w0.heap.size ≤ hi) : ∀ k, v.ownBlock = some k → lo ≤ k ∧ k < hi := fun k hk => by have := h.lt k hk; omega

theorem own_addr0 {w : World} {base : Nat} {e : TypeId} {size n cap : Nat} {A : Option Addr} {xs : List Value} (h : w.ownsRow base e size (.slice A n cap) n xs) (hn : 0 < n) : ∃ g, A = some ⟨g, 0, none⟩ ∧ base ≤ g ∧ g < w.heap.size := by
  rcases h.2 with ⟨_, h0⟩ | ⟨g, cap', cur, hv, hb, hg, _⟩
  · omega
  · injection hv with h1 h2 h3
    exact ⟨g, h1, hb, heap_lt hg⟩

/-- Rows in the cells of a row: each owned, no two in one block. -/
structure Inn (s : Nat) (e : TypeId) (lo hi : Nat) (vs : List Value) (its : List (Nat × List Value)) (w : World) : Prop where
  len : vs.length = its.length
  own : ∀ (j : Nat) (v : Value) (it : Nat × List Value), vs[j]? = some v → its[j]? = some it → w.ownsRow lo e s v it.1 it.2
  top : ∀ (j : Nat) (v : Value) (k : Nat), vs[j]? = some v → v.ownBlock = some k → k < hi
  apart : ∀ (i j : Nat) (v u : Value), i < j → vs[i]? = some v → vs[j]? = some u → v.ownBlock = none ∨ v.ownBlock ≠ u.ownBlock
section
variable {s lo hi : Nat} {e : TypeId} {vs : List Value} {its : List (Nat × List Value)} {w w' : World}
theorem Inn.nil (s lo hi : Nat) (e : TypeId) (w : World) : Inn s e lo hi [] [] w := ⟨rfl, by simp, by simp, by simp⟩
theorem Inn.get (h : Inn s e lo hi vs its w) {j : Nat} (hj : j < its.length) : ∃ v it, vs[j]? = some v ∧ its[j]? = some it ∧ w.ownsRow lo e s v it.1 it.2 := by
  have h1 : vs[j]? = some (vs[j]'(by rw [h.len]; exact hj)) := List.getElem?_eq_getElem _
  have h2 : its[j]? = some its[j] := List.getElem?_eq_getElem _
  exact ⟨_, _, h1, h2, h.own _ _ _ h1 h2⟩
theorem Inn.dep (lo hi : Nat) (s : Nat) (e : TypeId) (vs : List Value) (its : List (Nat × List Value)) : Dep lo hi (Inn s e lo hi vs its) := by
  intro a b h hk
  refine ⟨h.len, fun j v it h1 h2 => ?_, h.top, h.apart⟩
  have ho := h.own j v it h1 h2
  exact own_dep (w := a) (fun k hk2 => ⟨(ho.lt k hk2).1, h.top j v k h1 hk2⟩) a b ho hk
theorem Inn.below (h : Inn s e lo hi vs its w) (hb : Below w.heap.size w w') : Inn s e lo hi vs its w' :=
  ⟨h.len, fun j v it h1 h2 => own_below' (h.own j v it h1 h2) hb, h.top, h.apart⟩
theorem Inn.wide {hi' : Nat} (h : Inn s e lo hi vs its w) (h2 : hi ≤ hi') : Inn s e lo hi' vs its w :=
  ⟨h.len, h.own, fun j v k h1 h3 => Nat.lt_of_lt_of_le (h.top j v k h1 h3) h2, h.apart⟩
end
theorem snoc_at {α : Type} {xs : List α} {x y : α} {j : Nat} (h : (xs ++ [x])[j]? = some y) : (j < xs.length ∧ xs[j]? = some y) ∨ (j = xs.length ∧ y = x) := by
  rcases Nat.lt_or_ge j xs.length with hj | hj
  · rw [List.getElem?_append_left hj] at h
    exact .inl ⟨hj, h⟩
  · rw [List.getElem?_append_right hj, List.getElem?_singleton] at h
    split at h
    · injection h with h
      exact .inr ⟨by omega, h.symm⟩
    · cases h
theorem set_at {α : Type} {xs : List α} {x y : α} {i j : Nat} (h : (xs.set i x)[j]? = some y) : (j = i ∧ y = x) ∨ (j ≠ i ∧ xs[j]? = some y) := by
  rw [List.getElem?_set] at h
  split at h
  · split at h
    · injection h with h; exact .inl ⟨by omega, h.symm⟩
    · cases h
  · exact .inr ⟨by omega, h⟩
section
variable {s lo hi : Nat} {e : TypeId} {vs : List Value} {its : List (Nat × List Value)} {w w' : World}
/-- One row more, made behind all the others. -/
theorem Inn.snoc {v : Value} {it : Nat × List Value} {b hi' : Nat} (h : Inn s e lo hi vs its w) (hv : w.ownsRow b e s v it.1 it.2) (hb : hi ≤ b) (hlo : lo ≤ b) (hw : w.heap.size ≤ hi') (hh : hi ≤ hi') : Inn s e lo hi' (vs ++ [v]) (its ++ [it]) w := by
  have hbs := hv.lt
  refine ⟨by simp [h.len], fun j u i2 h1 h2 => ?_, fun j u k h1 h2 => ?_, fun i j u1 u2 hij h1 h2 => ?_⟩
  · rcases snoc_at h1 with ⟨hj, h1⟩ | ⟨hj, rfl⟩
    · rcases snoc_at h2 with ⟨_, h2⟩ | ⟨hj2, _⟩
      · exact h.own j u i2 h1 h2
      · have := h.len; omega
    · rcases snoc_at h2 with ⟨hj2, _⟩ | ⟨_, rfl⟩
      · have := h.len; omega
      · exact own_base hv hlo
  · rcases snoc_at h1 with ⟨hj, h1⟩ | ⟨hj, rfl⟩
    · have := h.top j u k h1 h2; omega
    · have := hbs k h2; omega
  · rcases snoc_at h1 with ⟨hi1, h1'⟩ | ⟨hi1, _⟩
    · rcases snoc_at h2 with ⟨_, h2'⟩ | ⟨_, e5⟩
      · exact h.apart i j u1 u2 hij h1' h2'
      · subst e5
        cases hk : u1.ownBlock with
        | none => exact .inl rfl
        | some k =>
          refine .inr fun e2 => ?_
          have := hbs k e2.symm
          have := h.top i u1 k h1' hk
          omega
    · rcases snoc_at h2 with ⟨hj, _⟩ | ⟨hj, _⟩ <;> omega
/-- One row turns. -/
theorem Inn.turn {j : Nat} {v : Value} {it : Nat × List Value} (h : Inn s e lo hi vs its w) (hv : vs[j]? = some v) (hg : w.grownBy w' v.ownBlock) (hn : w'.ownsRow lo e s v it.1 it.2) : Inn s e lo hi vs (its.set j it) w' := by
  refine ⟨by rw [List.length_set]; exact h.len, fun i u i2 h1 h2 => ?_, h.top, h.apart⟩
  rcases set_at h2 with ⟨rfl, rfl⟩ | ⟨hne, h2⟩
  · rw [hv] at h1; injection h1 with h1; subst h1; exact hn
  · refine (h.own i u i2 h1 h2).kept hg ?_
    rcases Nat.lt_or_ge i j with hij | hij
    · exact h.apart i j u v hij h1 hv
    · cases hu : u.ownBlock with
      | none => exact .inl rfl
      | some k =>
        refine .inr fun e2 => ?_
        rcases h.apart j i v u (by omega) hv h1 with h3 | h3
        · rw [h3] at e2; cases e2
        · exact h3 (by rw [hu]; exact e2.symm)
theorem Inn.touch (h : Inn s e lo hi vs its w) {j : Nat} {v : Value} (hv : vs[j]? = some v) (hg : w.grownBy w' v.ownBlock) : Touch lo hi w w' := by
  refine Touch.of_grown hg fun k hk => ?_
  have hj : j < its.length := by rw [← h.len]; exact (List.getElem?_eq_some_iff.1 hv).1
  have ho := h.own j v _ hv (List.getElem?_eq_getElem hj)
  exact ⟨(ho.lt k hk).1, h.top j v k hv hk⟩
end
theorem own_apart_ty {w : World} {b1 b2 : Nat} {e1 e2 : TypeId} {s1 s2 n1 n2 : Nat} {v1 v2 : Value} {x1 x2 : List Value} (h1 : w.ownsRow b1 e1 s1 v1 n1 x1) (h2 : w.ownsRow b2 e2 s2 v2 n2 x2) (hne : e1 ≠ e2) : v1.ownBlock = none ∨ v1.ownBlock ≠ v2.ownBlock := by
  rcases h1.2 with ⟨rfl, _⟩ | ⟨g, cap, cur, rfl, _, hg, _⟩
  · exact .inl rfl
  · refine .inr fun e => ?_
    exact own_ne_block h2 hg (fun h => hne h.symm) e

theorem Inn.kept {s lo hi : Nat} {e t : TypeId} {vs : List Value} {its : List (Nat × List Value)} {w w' : World} {b s0 n : Nat} {V : Value} {cs : List Value} (h : Inn s e lo hi vs its w) (ho : w.ownsRow b t s0 V n cs) (hg : w.grownBy w' V.ownBlock) (hne : e ≠ t) : Inn s e lo hi vs its w' :=
  ⟨h.len, fun j v it h1 h2 => (h.own j v it h1 h2).kept hg (own_apart_ty (h.own j v it h1 h2) ho hne), h.top, h.apart⟩

/-- The marks of rows that follow each other. -/
def mks (F : Int → Value) (s : Nat) : Int → List (Nat × List Value) → List (Nat × List Value)
  | _, [] => []
  | k, it :: l => (it.1, marks F k (it.1 * s)) :: mks F s (k + (it.1 * s : Nat)) l
/-- How many cells rows have. -/
def cellsIn (s : Nat) (its : List (Nat × List Value)) : Nat := (its.map fun it => it.1 * s).sum
theorem cellsIn_snoc (s : Nat) (its : List (Nat × List Value)) (it : Nat × List Value) : cellsIn s (its ++ [it]) = cellsIn s its + it.1 * s := by simp [cellsIn]
theorem cellsIn_take {s : Nat} {its : List (Nat × List Value)} {k : Nat} {it : Nat × List Value} (h : its[k]? = some it) : cellsIn s (its.take (k + 1)) = cellsIn s (its.take k) + it.1 * s := by
  rw [List.take_add_one, h]; exact cellsIn_snoc s _ it
theorem cellsIn_le (s : Nat) (its : List (Nat × List Value)) (k : Nat) : cellsIn s (its.take k) ≤ cellsIn s its := by
  have h : ∀ a b : List (Nat × List Value), cellsIn s a ≤ cellsIn s (a ++ b) := by intro a b; simp [cellsIn]
  have := h (its.take k) (its.drop k)
  rwa [List.take_append_drop] at this
theorem length_mks (F : Int → Value) (s : Nat) (its : List (Nat × List Value)) : ∀ k, (mks F s k its).length = its.length := by
  induction its with
  | nil => intro k; rfl
  | cons it l ih => intro k; simp [mks, ih]
theorem mks_snoc (F : Int → Value) (s : Nat) (it : Nat × List Value) (its : List (Nat × List Value)) : ∀ k : Int, mks F s k (its ++ [it]) = mks F s k its ++ [(it.1, marks F (k + (cellsIn s its : Nat)) (it.1 * s))] := by
  induction its with
  | nil => intro k; simp [mks, cellsIn]
  | cons i l ih =>
    intro k
    simp only [List.cons_append, mks, ih]
    congr 5
    simp only [cellsIn, List.map_cons, List.sum_cons]
    omega
theorem mks_at (F : Int → Value) (s : Nat) {its : List (Nat × List Value)} {j : Nat} {it : Nat × List Value} (h : its[j]? = some it) (k : Int) : (mks F s k its)[j]? = some (it.1, marks F (k + (cellsIn s (its.take j) : Nat)) (it.1 * s)) := by
  obtain ⟨hj, hx⟩ := List.getElem?_eq_some_iff.1 h
  have e : its = its.take j ++ it :: its.drop (j + 1) := by
    conv => lhs; rw [← List.take_append_drop j its, List.drop_eq_getElem_cons hj, hx]
  have e2 : ∀ (a b : List (Nat × List Value)) (k : Int), mks F s k (a ++ b) = mks F s k a ++ mks F s (k + (cellsIn s a : Nat)) b := by
    intro a
    induction a with
    | nil => intro b k; simp [mks, cellsIn]
    | cons i l ih =>
      intro b k
      simp only [List.cons_append, mks, ih]
      congr 3
      simp only [cellsIn, List.map_cons, List.sum_cons]
      omega
  conv => lhs; rw [e, e2]
  rw [List.getElem?_append_right (by rw [length_mks, List.length_take]; omega), length_mks, List.length_take, Nat.min_eq_left (by omega), Nat.sub_self]
  rfl
/-- A round of marking. -/
theorem Inn.mark {F : Int → Value} {k0 : Int} {s lo hi k : Nat} {e : TypeId} {vs : List Value} {its : List (Nat × List Value)} {w w' : World} {v : Value} {it : Nat × List Value} (h : Inn s e lo hi vs (mks F s k0 (its.take k) ++ its.drop k) w) (hv : vs[k]? = some v) (hit : its[k]? = some it)
    (hg : w.grownBy w' v.ownBlock) (hn : w'.ownsRow lo e s v it.1 (marks F (k0 + (cellsIn s (its.take k) : Nat)) (it.1 * s))) : Inn s e lo hi vs (mks F s k0 (its.take (k + 1)) ++ its.drop (k + 1)) w' := by
  have h2 := h.turn (it := (it.1, marks F (k0 + (cellsIn s (its.take k) : Nat)) (it.1 * s))) hv hg hn
  obtain ⟨hj, hx⟩ := List.getElem?_eq_some_iff.1 hit
  have e : (mks F s k0 (its.take k) ++ its.drop k).set k (it.1, marks F (k0 + (cellsIn s (its.take k) : Nat)) (it.1 * s)) = mks F s k0 (its.take (k + 1)) ++ its.drop (k + 1) := by
    have hl : (mks F s k0 (its.take k)).length = k := by rw [length_mks, List.length_take]; omega
    rw [List.set_append_right _ _ (by omega), hl, Nat.sub_self, List.drop_eq_getElem_cons hj, List.set_cons_zero, List.take_add_one, hit]
    show _ = mks F s k0 (its.take k ++ [it]) ++ _
    rw [mks_snoc]
    simp
  rw [e] at h2
  exact h2
theorem inn_row {F : Int → Value} {k0 : Int} {s lo hi k : Nat} {e : TypeId} {vs : List Value} {its : List (Nat × List Value)} {w : World} {v : Value} {it : Nat × List Value} (h : Inn s e lo hi vs (mks F s k0 (its.take k) ++ its.drop k) w) (hv : vs[k]? = some v) (hit : its[k]? = some it) : w.ownsRow lo e s v it.1 it.2 := by
  obtain ⟨hj, hx⟩ := List.getElem?_eq_some_iff.1 hit
  refine h.own k v it hv ?_
  have hl : (mks F s k0 (its.take k)).length = k := by rw [length_mks, List.length_take]; omega
  rw [List.getElem?_append_right (by omega), hl, Nat.sub_self, List.getElem?_drop]
  simpa using hit

/-- A row whose cells hold rows: the outer row (n elements of s0 cells, read as cs), the inner ones (elements of s cells); all blocks from base up to hi. -/
structure Grid (base hi : Nat) (t : TypeId) (s0 : Nat) (V : Value) (n : Nat) (cs : List Value) (e : TypeId) (s : Nat) (us : List Value) (its : List (Nat × List Value)) (W : World) : Prop where
  own : W.ownsRow base t s0 V n cs
  inn : Inn s e base hi us its W
  top : ∀ k, V.ownBlock = some k → k < hi
section
variable {base hi : Nat} {t : TypeId} {s0 : Nat} {V : Value} {n : Nat} {cs : List Value} {e : TypeId} {s : Nat} {us : List Value} {its : List (Nat × List Value)} {w w' : World}
theorem Grid.dep (base hi : Nat) (t : TypeId) (s0 : Nat) (V : Value) (n : Nat) (cs : List Value) (e : TypeId) (s : Nat) (us : List Value) (its : List (Nat × List Value)) : Dep base hi (Grid base hi t s0 V n cs e s us its) := by
  intro a b h hk
  exact ⟨own_dep (w := a) (fun k h2 => ⟨(h.own.lt k h2).1, h.top k h2⟩) a b h.own hk, Inn.dep base hi s e us its a b h.inn hk, h.top⟩
theorem Grid.held (h : Grid base hi t s0 V n cs e s us its w) (hh : hi ≤ w.heap.size) : Held base hi (Grid base hi t s0 V n cs e s us its) w := ⟨hh, h, Grid.dep _ _ _ _ _ _ _ _ _ _ _⟩
theorem Grid.below (h : Grid base hi t s0 V n cs e s us its w) (hb : Below w.heap.size w w') : Grid base hi t s0 V n cs e s us its w' := ⟨own_below' h.own hb, h.inn.below hb, h.top⟩
end
theorem fill_set {us : List Value} {n k : Nat} {z v : Value} (hl : us.length = k) (hk : k < n) : (us ++ List.replicate (n - k) z).set k v = (us ++ [v]) ++ List.replicate (n - (k + 1)) z := by
  subst hl
  rw [List.set_append_right _ _ (Nat.le_refl _), Nat.sub_self, show n - us.length = (n - (us.length + 1)) + 1 by omega, List.replicate_succ, List.set_cons_zero]
  simp

/-- Slices in the cells of another slice that came in. -/
def Ins {α : Type} (s : Nat) (f : α → List Value) (w : World) (vs : List Value) (ts : List (List α)) : Prop :=
  vs.length = ts.length ∧ ∀ (j : Nat) (v : Value) (t : List α), vs[j]? = some v → ts[j]? = some t → ∃ A c, v = .slice A t.length c ∧ Args s w A t.length (rows f t)
theorem Ins.below {α : Type} {s : Nat} {f : α → List Value} {w w' : World} {vs : List Value} {ts : List (List α)} (h : Ins s f w vs ts) (hb : Below w.heap.size w w') : Ins s f w' vs ts :=
  ⟨h.1, fun j v t h1 h2 => by obtain ⟨A, c, e, ha⟩ := h.2 j v t h1 h2; exact ⟨A, c, e, ha.below hb⟩⟩
theorem Ins.get {α : Type} {s : Nat} {f : α → List Value} {w : World} {vs : List Value} {ts : List (List α)} (h : Ins s f w vs ts) {j : Nat} {t : List α} (ht : ts[j]? = some t) : ∃ A c, vs[j]? = some (.slice A t.length c) ∧ Args s w A t.length (rows f t) := by
  have hj := (List.getElem?_eq_some_iff.1 ht).1
  have h1 : vs[j]? = some (vs[j]'(by rw [h.1]; exact hj)) := List.getElem?_eq_getElem _
  obtain ⟨A, c, e, ha⟩ := h.2 j _ t h1 ht
  exact ⟨A, c, by rw [h1, e], ha⟩
/-- The rows of lists. -/
def itsOf {α : Type} (f : α → List Value) (ts : List (List α)) : List (Nat × List Value) := ts.map fun t => (t.length, rows f t)
theorem itsOf_take {α : Type} (f : α → List Value) (ts : List (List α)) (k : Nat) : (itsOf f ts).take k = itsOf f (ts.take k) := by simp [itsOf, List.map_take]
theorem itsOf_at {α : Type} (f : α → List Value) {ts : List (List α)} {k : Nat} {t : List α} (h : ts[k]? = some t) : (itsOf f ts)[k]? = some (t.length, rows f t) := by simp [itsOf, h]
theorem itsOf_snoc {α : Type} (f : α → List Value) {ts : List (List α)} {k : Nat} {t : List α} (h : ts[k]? = some t) : (itsOf f ts).take (k + 1) = (itsOf f ts).take k ++ [(t.length, rows f t)] := by
  rw [List.take_add_one, itsOf_at f h]; rfl
theorem Inn.ins {α : Type} {s lo hi : Nat} {f : α → List Value} {e : TypeId} {us : List Value} {ts : List (List α)} {w : World} (h : Inn s e lo hi us (itsOf f ts) w) : Ins s f w us ts := by
  refine ⟨by rw [h.len]; simp [itsOf], fun j v t h1 h2 => ?_⟩
  have ho := h.own j v _ h1 (itsOf_at f h2)
  obtain ⟨A, c, rfl⟩ := own_form ho
  exact ⟨A, c, rfl, args_of_own ho⟩
/-- How many elements lists have. -/
def sumLen {α : Type} (ts : List (List α)) : Nat := (ts.map List.length).sum
theorem sumLen_take {α : Type} {ts : List (List α)} {k : Nat} {t : List α} (h : ts[k]? = some t) : sumLen (ts.take (k + 1)) = sumLen (ts.take k) + t.length := by
  rw [List.take_add_one, h]; simp [sumLen]
theorem sumLen_le {α : Type} (ts : List (List α)) (k : Nat) : sumLen (ts.take k) ≤ sumLen ts := by
  have h : ∀ a b : List (List α), sumLen a ≤ sumLen (a ++ b) := by intro a b; simp [sumLen]
  have := h (ts.take k) (ts.drop k)
  rwa [List.take_append_drop] at this
theorem sumLen_at {α : Type} {ts : List (List α)} {k : Nat} {t : List α} (h : ts[k]? = some t) : t.length ≤ sumLen ts := by
  have := sumLen_take h
  have := sumLen_le ts (k + 1)
  omega
theorem sumLen_mem {α : Type} {ts : List (List α)} {t : List α} (h : t ∈ ts) : t.length ≤ sumLen ts := by
  obtain ⟨j, hj⟩ := List.getElem?_of_mem h
  exact sumLen_at hj
theorem cellsIn_its {α : Type} (f : α → List Value) (s : Nat) (ts : List (List α)) : cellsIn s (itsOf f ts) = sumLen ts * s := by
  unfold cellsIn itsOf sumLen
  induction ts with
  | nil => simp
  | cons t l ih => simp only [List.map_cons, List.sum_cons, Nat.add_mul]; rw [← ih]
theorem arg_args {w : World} {A : Option Addr} {n : Nat} {xs : List Value} (h : Args 1 w A n xs) : Arg w A n xs := ⟨by have := h.1; omega, h.2⟩
theorem args_arg {w : World} {A : Option Addr} {n : Nat} {xs : List Value} (h : Arg w A n xs) : Args 1 w A n xs := ⟨by have := h.1; omega, h.2⟩
def oneI (x : Int) : List Value := [.int .i64 x]
def oneB (x : Bool) : List Value := [.bool x]
theorem rows_oneI (xs : List Int) : rows oneI xs = xs.map (Value.int .i64) := by unfold rows oneI; induction xs <;> simp_all
theorem rows_oneB (xs : List Bool) : rows oneB xs = xs.map Value.bool := by unfold rows oneB; induction xs <;> simp_all
/-- A row, its block below hi. -/
structure Flat (lo hi : Nat) (e : TypeId) (s : Nat) (V : Value) (n : Nat) (xs : List Value) (W : World) : Prop where
  own : W.ownsRow lo e s V n xs
  top : ∀ k, V.ownBlock = some k → k < hi
section
variable {lo hi : Nat} {e : TypeId} {s : Nat} {V : Value} {n : Nat} {xs ys : List Value} {w w' : World}
theorem Flat.dep (lo hi : Nat) (e : TypeId) (s : Nat) (V : Value) (n : Nat) (xs : List Value) : Dep lo hi (Flat lo hi e s V n xs) := by
  intro a b h hk
  exact ⟨own_dep (w := a) (fun k h2 => ⟨(h.own.lt k h2).1, h.top k h2⟩) a b h.own hk, h.top⟩
theorem flat_of_own (h : w.ownsRow lo e s V n xs) : Held lo w.heap.size (Flat lo w.heap.size e s V n xs) w := ⟨Nat.le_refl _, ⟨h, fun k hk => (h.lt k hk).2⟩, Flat.dep _ _ _ _ _ _ _⟩
theorem Flat.turn (h : Held lo hi (Flat lo hi e s V n xs) w) (hn : w'.ownsRow lo e s V n ys) (hg : w.grownBy w' V.ownBlock) : Held lo hi (Flat lo hi e s V n ys) w' ∧ Touch lo hi w w' :=
  ⟨⟨Nat.le_trans h.le hg.size, ⟨hn, h.is.top⟩, Flat.dep _ _ _ _ _ _ _⟩, Touch.of_grown hg fun k hk => ⟨(h.is.own.lt k hk).1, h.is.top k hk⟩⟩
end
theorem Grid.turn {base hi : Nat} {t : TypeId} {s0 : Nat} {V : Value} {n : Nat} {cs cs' : List Value} {e : TypeId} {s : Nat} {us : List Value} {its its' : List (Nat × List Value)} {w w' : World} (h : Held base hi (Grid base hi t s0 V n cs e s us its) w) (hn : Grid base hi t s0 V n cs' e s us its' w') (ht : Touch base hi w w') : Held base hi (Grid base hi t s0 V n cs' e s us its') w' :=
  ⟨Nat.le_trans h.le ht.size, hn, Grid.dep _ _ _ _ _ _ _ _ _ _ _⟩
/-- Slices in the cells of a row, each nil or with cells that are there. -/
def Srcs {α : Type} (s : Nat) (f : α → List Value) (w : World) (vs : List Value) (ts : List (List α)) : Prop :=
  vs.length = ts.length ∧ ∀ (j : Nat) (v : Value) (t : List α), vs[j]? = some v → ts[j]? = some t → Src s w v t.length (rows f t)
theorem Srcs.below {α : Type} {s : Nat} {f : α → List Value} {w w' : World} {vs : List Value} {ts : List (List α)} (h : Srcs s f w vs ts) (hb : Below w.heap.size w w') : Srcs s f w' vs ts :=
  ⟨h.1, fun j v t h1 h2 => (h.2 j v t h1 h2).below hb⟩
theorem Inn.srcs {α : Type} {s lo hi : Nat} {f : α → List Value} {e : TypeId} {us : List Value} {ts : List (List α)} {w : World} (h : Inn s e lo hi us (itsOf f ts) w) : Srcs s f w us ts :=
  ⟨by rw [h.len]; simp [itsOf], fun j v t h1 h2 => Src.of_own (h.own j v _ h1 (itsOf_at f h2))⟩
theorem its_bound {α : Type} {f : α → List Value} {ts : List (List α)} {m : Nat} (h : sumLen ts ≤ m) : ∀ it ∈ itsOf f ts, it.1 ≤ m := by
  intro it hit
  unfold itsOf at hit
  obtain ⟨t, ht, rfl⟩ := List.mem_map.1 hit
  exact Nat.le_trans (sumLen_mem ht) h
/-- What is left behind n elements, or -1. -/
def SzOut (n : Nat) (left z : Int) : Prop := ((n : Int) ≤ left ∧ z = left - n) ∨ (left < (n : Int) ∧ z = -1)
theorem szOut_no {n : Nat} {left : Int} (h : left < (n : Int)) : SzOut n left (-1) := .inr ⟨h, rfl⟩
theorem szOut_yes {n : Nat} {left z : Int} (h : (n : Int) ≤ left) (hz : z = left - n) : SzOut n left z := .inl ⟨h, hz⟩
end Go.Proofs.YtkiaclajjlidoaaGreatDoor

/- Rows of records that hold slices of the call's own: plain lemmas on worlds, for whatever record. -/
namespace Go.Proofs.YtkiaclajjlidoaaGreatDoor
open Go.RowKit
set_option linter.all false

section
variable {α β : Type}
theorem flat_len (f : α → List β) {s : Nat} (hs : ∀ x, (f x).length = s) (xs : List α) : (xs.flatMap f).length = xs.length * s := by
  induction xs with
  | nil => simp
  | cons x l ih => rw [List.flatMap_cons, List.length_append, ih, hs, List.length_cons, Nat.succ_mul, Nat.add_comm]
theorem flat_at (f : α → List β) {s : Nat} (hs : ∀ x, (f x).length = s) {xs : List α} {k : Nat} {x : α} (h : xs[k]? = some x) {j : Nat} (hj : j < s) : (xs.flatMap f)[k * s + j]? = (f x)[j]? := by
  obtain ⟨hk, hx⟩ := List.getElem?_eq_some_iff.1 h
  have e : xs = xs.take k ++ (x :: xs.drop (k + 1)) := by
    conv => lhs; rw [← List.take_append_drop k xs, List.drop_eq_getElem_cons hk, hx]
  have l1 : ((xs.take k).flatMap f).length = k * s := by rw [flat_len f hs, List.length_take, Nat.min_eq_left (by omega)]
  conv => lhs; rw [e, List.flatMap_append]
  rw [List.getElem?_append_right (by omega), l1, Nat.add_sub_cancel_left, List.flatMap_cons, List.getElem?_append_left (by rw [hs]; exact hj)]
theorem flat_set (f : α → List β) {s : Nat} (hs : ∀ x, (f x).length = s) {xs : List α} {k : Nat} {x : α} (y : α) {j : Nat} {u : β} (hx : xs[k]? = some x) (hj : j < s) (hy : f y = (f x).set j u) : (xs.flatMap f).set (k * s + j) u = (xs.set k y).flatMap f := by
  obtain ⟨hk, hx'⟩ := List.getElem?_eq_some_iff.1 hx
  have e : xs = xs.take k ++ (x :: xs.drop (k + 1)) := by
    conv => lhs; rw [← List.take_append_drop k xs, List.drop_eq_getElem_cons hk, hx']
  have l1 : ((xs.take k).flatMap f).length = k * s := by rw [flat_len f hs, List.length_take, Nat.min_eq_left (by omega)]
  have l2 : (xs.take k).length = k := by rw [List.length_take]; omega
  have e2 : xs.set k y = xs.take k ++ (y :: xs.drop (k + 1)) := by
    conv => lhs; rw [e]
    rw [List.set_append_right _ _ (by omega), l2, Nat.sub_self, List.set_cons_zero]
  rw [e2, List.flatMap_append, List.flatMap_cons, hy]
  conv => lhs; rw [e]
  rw [List.flatMap_append, List.flatMap_cons, List.set_append_right _ _ (by omega), l1, Nat.add_sub_cancel_left, List.set_append_left _ _ (by rw [hs]; exact hj)]
theorem flat_same (f : α → List β) {xs : List α} {k : Nat} {x : α} (y : α) (hx : xs[k]? = some x) (hy : f y = f x) : (xs.set k y).flatMap f = xs.flatMap f := by
  obtain ⟨hk, hx'⟩ := List.getElem?_eq_some_iff.1 hx
  have e : xs = xs.take k ++ (x :: xs.drop (k + 1)) := by
    conv => lhs; rw [← List.take_append_drop k xs, List.drop_eq_getElem_cons hk, hx']
  have l2 : (xs.take k).length = k := by rw [List.length_take]; omega
  have e2 : xs.set k y = xs.take k ++ (y :: xs.drop (k + 1)) := by
    conv => lhs; rw [e]
    rw [List.set_append_right _ _ (by omega), l2, Nat.sub_self, List.set_cons_zero]
  rw [e2]
  conv => rhs; rw [e]
  simp only [List.flatMap_append, List.flatMap_cons, hy]
end

/-- A kind of record: its outer cells, its slices, and what they hold. -/
structure Knd (E : Type) where
  vs : E → List Value
  us : E → List Value
  its : E → List (Nat × List Value)
  s0 : Nat
  ns : Nat
  vs_len : ∀ e, (vs e).length = s0
  us_len : ∀ e, (us e).length = ns
  its_len : ∀ e, (its e).length = ns
/-- A row of records of the call's own. -/
def SGrid {E : Type} (K : Knd E) (base hi : Nat) (T Te : TypeId) (s : Nat) (V : Value) (es : List E) (W : World) : Prop :=
  Grid base hi T K.s0 V es.length (rows K.vs es) Te s (es.flatMap K.us) (es.flatMap K.its) W
section
variable {E : Type} {K : Knd E} {base hi : Nat} {T Te : TypeId} {s : Nat} {V : Value} {es : List E} {W W' : World}
theorem SGrid.dep : Dep base hi (SGrid K base hi T Te s V es) := Grid.dep _ _ _ _ _ _ _ _ _ _ _
theorem SGrid.held (h : SGrid K base hi T Te s V es W) (hh : hi ≤ W.heap.size) : Held base hi (SGrid K base hi T Te s V es) W := ⟨hh, h, SGrid.dep⟩
theorem SGrid.turn {es' : List E} (h : Held base hi (SGrid K base hi T Te s V es) W) (hn : SGrid K base hi T Te s V es' W') (ht : Touch base hi W W') : Held base hi (SGrid K base hi T Te s V es') W' := ⟨Nat.le_trans h.le ht.size, hn, SGrid.dep⟩
theorem SGrid.below (h : SGrid K base hi T Te s V es W) (hb : Below W.heap.size W W') : SGrid K base hi T Te s V es W' := Grid.below h hb
/-- One of the slices of a record. -/
theorem SGrid.row (h : SGrid K base hi T Te s V es W) {k j : Nat} {e : E} (hk : es[k]? = some e) {v : Value} {it : Nat × List Value} (hv : (K.us e)[j]? = some v) (hit : (K.its e)[j]? = some it) : W.ownsRow base Te s v it.1 it.2 := by
  have hj : j < K.ns := by rw [← K.us_len e]; exact (List.getElem?_eq_some_iff.1 hv).1
  exact h.inn.own (k * K.ns + j) v it (by rw [flat_at K.us K.us_len hk hj]; exact hv) (by rw [flat_at K.its K.its_len hk hj]; exact hit)
/-- A store into an outer cell. -/
theorem SGrid.store {g n cap k j : Nat} {e e' : E} {u : Value} (h : SGrid K base hi T Te s (.slice (some ⟨g, 0, none⟩) n cap) es W) (hk : es[k]? = some e) (hj : j < K.s0) (hvs : K.vs e' = (K.vs e).set j u) (hus : K.us e' = K.us e) (hits : K.its e' = K.its e) (hne : Te ≠ T) :
    SGrid K base hi T Te s (.slice (some ⟨g, 0, none⟩) n cap) (es.set k e') (W.setCell ⟨g, k * K.s0 + j, none⟩ u) ∧ Touch base hi W (W.setCell ⟨g, k * K.s0 + j, none⟩ u) := by
  have hl : n = es.length := by
    have := h.own
    obtain ⟨A, c, e1⟩ := own_form this
    injection e1
  subst hl
  have ho := h.own
  obtain ⟨h1, h2⟩ := ho.stored (k * K.s0 + j) u
  refine ⟨⟨?_, ?_, h.top⟩, ?_⟩
  · unfold rows at h1 ⊢
    rw [flat_set K.vs K.vs_len e' hk hj hvs] at h1
    rw [List.length_set]
    exact h1
  · have hin := h.inn.kept ho h2 hne
    rw [flat_same K.us e' hk hus, flat_same K.its e' hk hits]
    exact hin
  · refine Touch.of_grown h2 fun q hq => ?_
    exact ⟨(ho.lt q hq).1, h.top q hq⟩
/-- One of the slices is written over. -/
theorem SGrid.mark {k j : Nat} {e e' : E} {v : Value} {it : Nat × List Value} {ys : List Value} (h : SGrid K base hi T Te s V es W) (hk : es[k]? = some e) (hv : (K.us e)[j]? = some v) (hit : (K.its e)[j]? = some it) (hg : W.grownBy W' v.ownBlock) (hn : W'.ownsRow base Te s v it.1 ys)
    (hvs : K.vs e' = K.vs e) (hus : K.us e' = K.us e) (hits : K.its e' = (K.its e).set j (it.1, ys)) (hne : T ≠ Te) : SGrid K base hi T Te s V (es.set k e') W' ∧ Touch base hi W W' := by
  have hj : j < K.ns := by rw [← K.us_len e]; exact (List.getElem?_eq_some_iff.1 hv).1
  have hv2 : (es.flatMap K.us)[k * K.ns + j]? = some v := by rw [flat_at K.us K.us_len hk hj]; exact hv
  have hrow := h.row hk hv hit
  refine ⟨⟨?_, ?_, h.top⟩, h.inn.touch hv2 hg⟩
  · rw [List.length_set]
    have : rows K.vs (es.set k e') = rows K.vs es := flat_same K.vs e' hk hvs
    rw [this]
    exact h.own.kept hg (own_apart_ty h.own hrow hne)
  · rw [flat_same K.us e' hk hus]
    have := h.inn.turn (it := (it.1, ys)) hv2 hg hn
    rw [flat_set K.its K.its_len e' hk hj hits] at this
    exact this
end

/-- Marks, record by record. -/
def markL {E : Type} (wid : E → Nat) (mk : Int → E → E) : Int → List E → List E
  | _, [] => []
  | k, e :: l => mk k e :: markL wid mk (k + (wid e : Nat)) l
def widSum {E : Type} (wid : E → Nat) (es : List E) : Nat := (es.map wid).sum
section
variable {E : Type} (wid : E → Nat) (mk : Int → E → E)
theorem widSum_take {es : List E} {k : Nat} {e : E} (h : es[k]? = some e) : widSum wid (es.take (k + 1)) = widSum wid (es.take k) + wid e := by
  rw [List.take_add_one, h]; simp [widSum]
theorem widSum_le (es : List E) (k : Nat) : widSum wid (es.take k) ≤ widSum wid es := by
  have h : ∀ a b : List E, widSum wid a ≤ widSum wid (a ++ b) := by intro a b; simp [widSum]
  have := h (es.take k) (es.drop k)
  rwa [List.take_append_drop] at this
theorem widSum_at {es : List E} {k : Nat} {e : E} (h : es[k]? = some e) : wid e ≤ widSum wid es := by
  have := widSum_take wid h
  have := widSum_le wid es (k + 1)
  omega
theorem length_markL (es : List E) : ∀ k, (markL wid mk k es).length = es.length := by
  induction es with
  | nil => intro k; rfl
  | cons e l ih => intro k; simp [markL, ih]
theorem markL_app (a b : List E) : ∀ k : Int, markL wid mk k (a ++ b) = markL wid mk k a ++ markL wid mk (k + (widSum wid a : Nat)) b := by
  induction a with
  | nil => intro k; simp [markL, widSum]
  | cons e l ih =>
    intro k
    simp only [List.cons_append, markL, ih]
    congr 3
    simp only [widSum, List.map_cons, List.sum_cons]
    omega
theorem markL_at {es : List E} {j : Nat} {e : E} (h : es[j]? = some e) (k : Int) : (markL wid mk k es)[j]? = some (mk (k + (widSum wid (es.take j) : Nat)) e) := by
  obtain ⟨hj, hx⟩ := List.getElem?_eq_some_iff.1 h
  have e1 : es = es.take j ++ e :: es.drop (j + 1) := by
    conv => lhs; rw [← List.take_append_drop j es, List.drop_eq_getElem_cons hj, hx]
  conv => lhs; rw [e1, markL_app]
  rw [List.getElem?_append_right (by rw [length_markL, List.length_take]; omega), length_markL, List.length_take, Nat.min_eq_left (by omega), Nat.sub_self]
  rfl
theorem markL_cur {es : List E} {k : Nat} {e : E} (h : es[k]? = some e) (k0 : Int) : (markL wid mk k0 (es.take k) ++ es.drop k)[k]? = some e := by
  obtain ⟨hj, hx⟩ := List.getElem?_eq_some_iff.1 h
  have hl : (markL wid mk k0 (es.take k)).length = k := by rw [length_markL, List.length_take]; omega
  rw [List.getElem?_append_right (by omega), hl, Nat.sub_self, List.getElem?_drop]
  simpa using h
theorem markL_next {es : List E} {k : Nat} {e : E} (h : es[k]? = some e) (k0 : Int) {e' : E} (he : e' = mk (k0 + (widSum wid (es.take k) : Nat)) e) : (markL wid mk k0 (es.take k) ++ es.drop k).set k e' = markL wid mk k0 (es.take (k + 1)) ++ es.drop (k + 1) := by
  subst he
  obtain ⟨hj, hx⟩ := List.getElem?_eq_some_iff.1 h
  have hl : (markL wid mk k0 (es.take k)).length = k := by rw [length_markL, List.length_take]; omega
  rw [List.set_append_right _ _ (by omega), hl, Nat.sub_self, List.drop_eq_getElem_cons hj, List.set_cons_zero, List.take_add_one, h]
  show _ = markL wid mk k0 (es.take k ++ [e]) ++ _
  rw [markL_app]
  simp [markL]
end
theorem set_set' {α : Type} (xs : List α) (k : Nat) (a b : α) : (xs.set k a).set k b = xs.set k b := List.set_set ..
theorem get_set' {α : Type} {xs : List α} {k : Nat} {x : α} (h : xs[k]? = some x) (y : α) : (xs.set k y)[k]? = some y := by
  have := (List.getElem?_eq_some_iff.1 h).1
  rw [List.getElem?_set_self this]

/-- The marks as numbers, and as records of two numbers. -/
def runI (k : Int) (n : Nat) : List Int := (List.range n).map fun j : Nat => k + (j : Int)
def run2 (k : Int) (n : Nat) : List R2 := (List.range n).map fun j : Nat => ⟨k + (j : Int) * 2, k + (j : Int) * 2 + 1⟩
theorem runI_len (k : Int) (n : Nat) : (runI k n).length = n := by simp [runI]
theorem run2_len (k : Int) (n : Nat) : (run2 k n).length = n := by simp [run2]
theorem rows_run2 (k : Int) (n : Nat) : rows R2.vs (run2 k n) = marks (.int .i64) k (n * 2) := by
  induction n with
  | zero => simp [run2, marks, rows]
  | succ n ih =>
    have e1 : run2 k (n + 1) = run2 k n ++ [⟨k + (n : Int) * 2, k + (n : Int) * 2 + 1⟩] := by simp [run2, List.range_succ]
    have e2 : marks (Value.int .i64) k ((n + 1) * 2) = marks (Value.int .i64) k (n * 2) ++ [.int .i64 (k + ((n * 2 : Nat) : Int)), .int .i64 (k + ((n * 2 + 1 : Nat) : Int))] := by
      rw [show (n + 1) * 2 = n * 2 + 1 + 1 by omega]
      simp [marks, List.range_succ]
    rw [e1, rows_app, ih, rows_one, e2]
    congr 1
    simp only [R2.vs]
    have h1 : k + (n : Int) * 2 = k + ((n * 2 : Nat) : Int) := by omega
    have h2 : k + (n : Int) * 2 + 1 = k + ((n * 2 + 1 : Nat) : Int) := by omega
    rw [h2, h1]

/-- Records stored one behind the other. -/
theorem put2 {A rest : List Value} {m : Nat} (a b : Value) (hl : A.length = m) (h : 2 ≤ rest.length) : ((A ++ rest).set m a).set (m + 1) b = (A ++ [a, b]) ++ rest.drop 2 := by
  subst hl
  match rest, h with
  | x0 :: x1 :: r, _ => simp
theorem put3 {A rest : List Value} {m : Nat} (a b c : Value) (hl : A.length = m) (h : 3 ≤ rest.length) : (((A ++ rest).set m a).set (m + 1) b).set (m + 2) c = (A ++ [a, b, c]) ++ rest.drop 3 := by
  subst hl
  match rest, h with
  | x0 :: x1 :: x2 :: r, _ => simp
theorem put4 {A rest : List Value} {m : Nat} (a b c d : Value) (hl : A.length = m) (h : 4 ≤ rest.length) : ((((A ++ rest).set m a).set (m + 1) b).set (m + 2) c).set (m + 3) d = (A ++ [a, b, c, d]) ++ rest.drop 4 := by
  subst hl
  match rest, h with
  | x0 :: x1 :: x2 :: x3 :: r, _ => simp
theorem put5 {A rest : List Value} {m : Nat} (a b c d e : Value) (hl : A.length = m) (h : 5 ≤ rest.length) : (((((A ++ rest).set m a).set (m + 1) b).set (m + 2) c).set (m + 3) d).set (m + 4) e = (A ++ [a, b, c, d, e]) ++ rest.drop 5 := by
  subst hl
  match rest, h with
  | x0 :: x1 :: x2 :: x3 :: x4 :: r, _ => simp
section
variable {base g n cap : Nat} {T : TypeId} {A rest : List Value} {m : Nat} {w : World}
theorem own_put2 (h : w.ownsRow base T 2 (.slice (some ⟨g, 0, none⟩) n cap) n (A ++ rest)) (hl : A.length = m) (hr : 2 ≤ rest.length) (a b : Value) :
    ((w.setCell ⟨g, m, none⟩ a).setCell ⟨g, m + 1, none⟩ b).ownsRow base T 2 (.slice (some ⟨g, 0, none⟩) n cap) n ((A ++ [a, b]) ++ rest.drop 2) ∧ w.grownBy ((w.setCell ⟨g, m, none⟩ a).setCell ⟨g, m + 1, none⟩ b) (some g) := by
  rw [← put2 a b hl hr]
  obtain ⟨h1, g1⟩ := h.stored m a
  obtain ⟨h2, g2⟩ := h1.stored (m + 1) b
  exact ⟨h2, g1.trans g2⟩
theorem own_put3 (h : w.ownsRow base T 3 (.slice (some ⟨g, 0, none⟩) n cap) n (A ++ rest)) (hl : A.length = m) (hr : 3 ≤ rest.length) (a b c : Value) :
    (((w.setCell ⟨g, m, none⟩ a).setCell ⟨g, m + 1, none⟩ b).setCell ⟨g, m + 2, none⟩ c).ownsRow base T 3 (.slice (some ⟨g, 0, none⟩) n cap) n ((A ++ [a, b, c]) ++ rest.drop 3) ∧ w.grownBy (((w.setCell ⟨g, m, none⟩ a).setCell ⟨g, m + 1, none⟩ b).setCell ⟨g, m + 2, none⟩ c) (some g) := by
  rw [← put3 a b c hl hr]
  obtain ⟨h1, g1⟩ := h.stored m a
  obtain ⟨h2, g2⟩ := h1.stored (m + 1) b
  obtain ⟨h3, g3⟩ := h2.stored (m + 2) c
  exact ⟨h3, (g1.trans g2).trans g3⟩
theorem own_put4 (h : w.ownsRow base T 4 (.slice (some ⟨g, 0, none⟩) n cap) n (A ++ rest)) (hl : A.length = m) (hr : 4 ≤ rest.length) (a b c d : Value) :
    ((((w.setCell ⟨g, m, none⟩ a).setCell ⟨g, m + 1, none⟩ b).setCell ⟨g, m + 2, none⟩ c).setCell ⟨g, m + 3, none⟩ d).ownsRow base T 4 (.slice (some ⟨g, 0, none⟩) n cap) n ((A ++ [a, b, c, d]) ++ rest.drop 4) ∧ w.grownBy ((((w.setCell ⟨g, m, none⟩ a).setCell ⟨g, m + 1, none⟩ b).setCell ⟨g, m + 2, none⟩ c).setCell ⟨g, m + 3, none⟩ d) (some g) := by
  rw [← put4 a b c d hl hr]
  obtain ⟨h1, g1⟩ := h.stored m a
  obtain ⟨h2, g2⟩ := h1.stored (m + 1) b
  obtain ⟨h3, g3⟩ := h2.stored (m + 2) c
  obtain ⟨h4, g4⟩ := h3.stored (m + 3) d
  exact ⟨h4, ((g1.trans g2).trans g3).trans g4⟩
theorem own_put5 (h : w.ownsRow base T 5 (.slice (some ⟨g, 0, none⟩) n cap) n (A ++ rest)) (hl : A.length = m) (hr : 5 ≤ rest.length) (a b c d e : Value) :
    (((((w.setCell ⟨g, m, none⟩ a).setCell ⟨g, m + 1, none⟩ b).setCell ⟨g, m + 2, none⟩ c).setCell ⟨g, m + 3, none⟩ d).setCell ⟨g, m + 4, none⟩ e).ownsRow base T 5 (.slice (some ⟨g, 0, none⟩) n cap) n ((A ++ [a, b, c, d, e]) ++ rest.drop 5) ∧ w.grownBy (((((w.setCell ⟨g, m, none⟩ a).setCell ⟨g, m + 1, none⟩ b).setCell ⟨g, m + 2, none⟩ c).setCell ⟨g, m + 3, none⟩ d).setCell ⟨g, m + 4, none⟩ e) (some g) := by
  rw [← put5 a b c d e hl hr]
  obtain ⟨h1, g1⟩ := h.stored m a
  obtain ⟨h2, g2⟩ := h1.stored (m + 1) b
  obtain ⟨h3, g3⟩ := h2.stored (m + 2) c
  obtain ⟨h4, g4⟩ := h3.stored (m + 3) d
  obtain ⟨h5, g5⟩ := h4.stored (m + 4) e
  exact ⟨h5, (((g1.trans g2).trans g3).trans g4).trans g5⟩
end
/-- Three blocks laid one behind the other. -/
theorem al3 (w : World) (o1 o2 o3 : Obj) : ∃ w3, Hid (w3 = ((w.alloc o1).alloc o2).alloc o3) ∧ Below w.heap.size w w3 ∧ w3.heap[w.heap.size]? = some o1 ∧ w3.heap[w.heap.size + 1]? = some o2 ∧ w3.heap[w.heap.size + 1 + 1]? = some o3 ∧ w3.heap.size = w.heap.size + 1 + 1 + 1 := by
  refine ⟨_, rfl, (((Below.refl _ _).alloc (Nat.le_refl _) _).alloc (by simp) _).alloc (by simp; omega) _, ?_, ?_, ?_, by simp⟩
  · rw [Below.heap_alloc _ _ _ (by simp; omega), Below.heap_alloc _ _ _ (by simp)]; exact heap_alloc_new w o1
  · have h1 := heap_alloc_new (w.alloc o1) o2
    rw [Below.heap_alloc _ _ _ (by simp)]
    simpa using h1
  · have := heap_alloc_new ((w.alloc o1).alloc o2) o3
    simpa using this
theorem al2 (w : World) (o1 o2 : Obj) : ∃ w2, Hid (w2 = (w.alloc o1).alloc o2) ∧ Below w.heap.size w w2 ∧ w2.heap[w.heap.size]? = some o1 ∧ w2.heap[w.heap.size + 1]? = some o2 := by
  refine ⟨_, rfl, ((Below.refl _ _).alloc (Nat.le_refl _) _).alloc (by simp) _, ?_, ?_⟩
  · rw [Below.heap_alloc _ _ _ (by simp)]; exact heap_alloc_new w o1
  · have h1 := heap_alloc_new (w.alloc o1) o2
    simpa using h1
theorem al1 (w : World) (o1 : Obj) : ∃ w1, Hid (w1 = w.alloc o1) ∧ Below w.heap.size w w1 ∧ w1.heap[w.heap.size]? = some o1 := ⟨_, rfl, laid_below _ _, heap_alloc_new w o1⟩
theorem own_set_low {w : World} {base : Nat} {e : TypeId} {size n : Nat} {v : Value} {xs : List Value} (h : w.ownsRow base e size v n xs) {b o : Nat} (hb : b < base) (u : Value) : (w.setCell ⟨b, o, none⟩ u).ownsRow base e size v n xs := ownsRow_setCell_below h hb u
theorem rest_len {A rest : List Value} {n k s : Nat} (h : (A ++ rest).length = n * s) (hA : A.length = k * s) (hk : k < n) : s ≤ rest.length := by
  rw [List.length_append] at h
  have : (k + 1) * s ≤ n * s := Nat.mul_le_mul_right s hk
  rw [Nat.succ_mul] at this
  omega

theorem Inn.set_low {s lo hi : Nat} {e : TypeId} {vs : List Value} {its : List (Nat × List Value)} {w : World} (h : Inn s e lo hi vs its w) {b o : Nat} (hb : b < lo) (u : Value) : Inn s e lo hi vs its (w.setCell ⟨b, o, none⟩ u) :=
  ⟨h.len, fun j v it h1 h2 => own_set_low (h.own j v it h1 h2) hb u, h.top, h.apart⟩
theorem Inn.lower {s lo lo' hi : Nat} {e : TypeId} {vs : List Value} {its : List (Nat × List Value)} {w : World} (h : Inn s e lo hi vs its w) (hl : lo' ≤ lo) : Inn s e lo' hi vs its w :=
  ⟨h.len, fun j v it h1 h2 => own_base (h.own j v it h1 h2) hl, h.top, h.apart⟩
/-- Two lists of rows, the second made behind the first. -/
theorem Inn.append {s lo mid hi : Nat} {e : TypeId} {vs us : List Value} {its jts : List (Nat × List Value)} {w : World} (h : Inn s e lo mid vs its w) (k : Inn s e mid hi us jts w) (hl : lo ≤ mid) (hh : mid ≤ hi) : Inn s e lo hi (vs ++ us) (its ++ jts) w := by
  have hvl := h.len
  have hul := k.len
  refine ⟨by simp [hvl, hul], fun j v it h1 h2 => ?_, fun j v q h1 h2 => ?_, fun i j v u hij h1 h2 => ?_⟩
  · rcases Nat.lt_or_ge j vs.length with hj | hj
    · rw [List.getElem?_append_left hj] at h1
      rw [List.getElem?_append_left (by omega)] at h2
      exact h.own j v it h1 h2
    · rw [List.getElem?_append_right hj] at h1
      rw [List.getElem?_append_right (by omega), ← hvl] at h2
      exact own_base (k.own _ v it h1 h2) hl
  · rcases Nat.lt_or_ge j vs.length with hj | hj
    · rw [List.getElem?_append_left hj] at h1
      exact Nat.lt_of_lt_of_le (h.top j v q h1 h2) hh
    · rw [List.getElem?_append_right hj] at h1
      exact k.top _ v q h1 h2
  · rcases Nat.lt_or_ge j vs.length with hj | hj
    · rw [List.getElem?_append_left hj] at h2
      rw [List.getElem?_append_left (by omega)] at h1
      exact h.apart i j v u hij h1 h2
    · rw [List.getElem?_append_right hj] at h2
      rcases Nat.lt_or_ge i vs.length with hi1 | hi1
      · rw [List.getElem?_append_left hi1] at h1
        cases hq : v.ownBlock with
        | none => exact .inl rfl
        | some q =>
          refine .inr fun e2 => ?_
          have t1 := h.top i v q h1 hq
          have hj2 : j - vs.length < jts.length := by rw [← hul]; exact (List.getElem?_eq_some_iff.1 h2).1
          have t2 := (k.own _ u _ h2 (List.getElem?_eq_getElem hj2)).lt q e2.symm
          omega
      · rw [List.getElem?_append_right hi1] at h1
        exact k.apart _ _ v u (by omega) h1 h2
theorem SGrid.cell {E : Type} {K : Knd E} {base hi : Nat} {T Te : TypeId} {s g n cap k j : Nat} {es : List E} {e : E} {u : Value} {W : World} (h : SGrid K base hi T Te s (.slice (some ⟨g, 0, none⟩) n cap) es W) (hk : es[k]? = some e) (hj : (K.vs e)[j]? = some u) : W.cell? ⟨g, k * K.s0 + j, none⟩ = some u := by
  have hj2 : j < K.s0 := by rw [← K.vs_len e]; exact (List.getElem?_eq_some_iff.1 hj).1
  have hk2 := (List.getElem?_eq_some_iff.1 hk).1
  have hlt : k * K.s0 + j < es.length * K.s0 := by
    have : (k + 1) * K.s0 ≤ es.length * K.s0 := Nat.mul_le_mul_right _ hk2
    rw [Nat.succ_mul] at this
    omega
  have hl : n = es.length := by
    obtain ⟨A, c, e1⟩ := own_form h.own
    injection e1
  have ho := h.own
  rw [← hl] at ho hlt
  rw [ho.cellAt _ hlt, rows_at K.vs_len hk hj2]
  exact hj
theorem SGrid.thaw {E : Type} {K : Knd E} {base hi : Nat} {T Te : TypeId} {s g n cap : Nat} {es : List E} {W : World} (h : SGrid K base hi T Te s (.slice (some ⟨g, 0, none⟩) n cap) es W) (i : Nat) : W.frozen? ⟨g, i, none⟩ = false := by
  have hl : n = es.length := by
    obtain ⟨A, c, e1⟩ := own_form h.own
    injection e1
  have ho := h.own
  rw [← hl] at ho
  exact ho.frozenAt i
theorem SGrid.addr {E : Type} {K : Knd E} {base hi : Nat} {T Te : TypeId} {s n : Nat} {V : Value} {es : List E} {W : World} (h : SGrid K base hi T Te s V es W) (hn : es.length = n) (h0 : 0 < n) : ∃ g cap, V = .slice (some ⟨g, 0, none⟩) n cap := by
  have ho := h.own
  rw [hn] at ho
  obtain ⟨A, c, rfl⟩ := own_form ho
  obtain ⟨g, rfl, _, _⟩ := own_addr0 ho h0
  exact ⟨g, c, rfl⟩
section
variable {E : Type} {K : Knd E} {base hi : Nat} {T Te : TypeId} {s n c : Nat} {es : List E} {W : World}
theorem SGrid.len {A : Option Addr} (h : SGrid K base hi T Te s (.slice A n c) es W) : n = es.length := by
  obtain ⟨A', c', e1⟩ := own_form h.own
  injection e1
theorem SGrid.argsN {A : Option Addr} (h : SGrid K base hi T Te s (.slice A n c) es W) : Args K.s0 W A n (rows K.vs es) := by
  have ho := h.own
  rw [← h.len] at ho
  exact args_of_own ho
theorem SGrid.slN {g : Nat} (h : SGrid K base hi T Te s (.slice (some ⟨g, 0, none⟩) n c) es W) : Sl W g 0 (rows K.vs es) := by
  have ho := h.own
  rw [← h.len] at ho
  exact sl_of_own ho
end
end Go.Proofs.YtkiaclajjlidoaaGreatDoor

/- strings.Builder: one that the call itself has made, written byte by byte and read once. -/
namespace Go.Proofs
open Go.Shelf
def Tryz.lays169_ren : Go.Shelf.Ren := ⟨fun | 169 => 90 | n => n, fun | 70 => 112 | 9 => 9 | 0 => 0 | 72 => 115 | 37 => 113 | 127 => 141 | 3 => 3 | 5 => 5 | n => n, fun | n => n⟩
theorem Tryz.lays169 : Go.Proofs.Lays.n169 Tryz.prog Tryz.lays169_ren := {
  mixed := by kernel_rfl
  f169 := Tryz.func90.trans (congrArg some (by kernel_rfl))
  t0 := Tryz.underlying0
  a0 := Tryz.isAgg0
  z0 := Tryz.sizeOf0
  v0 := Tryz.zeroValue0
  t3 := Tryz.underlying3
  a3 := Tryz.isAgg3
  z3 := Tryz.sizeOf3
  v3 := Tryz.zeroValue3
  t9 := Tryz.underlying9
  a9 := Tryz.isAgg9
  z9 := Tryz.sizeOf9
  v9 := Tryz.zeroValue9
  t37 := Tryz.underlying113
  a37 := Tryz.isAgg113
  z37 := Tryz.sizeOf113
  v37 := Tryz.zeroValue113
  t70 := Tryz.underlying112
  a70 := Tryz.isAgg112
  z70 := Tryz.sizeOf112
  v70 := Tryz.zeroValue112
  t72 := Tryz.underlying115
  a72 := Tryz.isAgg115
  z72 := Tryz.sizeOf115
  v72 := Tryz.zeroValue115
  t127 := Tryz.underlying141
  a127 := Tryz.isAgg141
  z127 := Tryz.sizeOf141
  v127 := Tryz.zeroValue141 }
theorem Tryz.Builder_Extra_169 : Builder.Extra Tryz.prog Tryz.lays169_ren := {
  sizeBuilder := by kernel_rfl
  liesBuilder := by kernel_rfl
  t5 := Tryz.underlying5
  a5 := Tryz.isAgg5
  z5 := Tryz.sizeOf5
  v5 := Tryz.zeroValue5
  infoByte := by kernel_rfl
  cellsByte := by kernel_rfl
  sizeByte := by kernel_rfl
  neB5 := by decide }
open Go.RowKit in
theorem Tryz.Builder_String_any (B b : Nat) (l : List UInt8) (w : World) (h : Lib.IsBuilder 115 5 B b (Lib.byteCells l) w) (hBw : B ≤ w.heap.size) :
    Calls Tryz.prog 90 #[.pointer (some ⟨b, 0, none⟩)] w fun e w' => e = .returned (.string ⟨l.toArray⟩) ∧ Below B w w' := Any.Builder_String_any Tryz.lays169 Tryz.Builder_Extra_169 B b l w h hBw
namespace YtkiaclajjlidoaaGreatDoor
open Go.RowKit
set_option linter.all false

/-- Of the blocks that were there, only such of a builder's and of bytes may have turned. -/
structure KeepB (w w' : World) : Prop where
  os : w'.os = w.os
  tape : w'.tape = w.tape
  output : w'.output = w.output
  size : w.heap.size ≤ w'.heap.size
  block : ∀ (g : Nat) (cs : Array Value) (t : TypeId) (fr : Nat × Nat), w.heap[g]? = some (.cells cs t fr) → t ≠ 115 → t ≠ 5 → w'.heap[g]? = some (.cells cs t fr)
theorem KeepB.refl (w : World) : KeepB w w := ⟨rfl, rfl, rfl, Nat.le_refl _, fun _ _ _ _ h _ _ => h⟩
theorem KeepB.trans {a b c : World} (h : KeepB a b) (k : KeepB b c) : KeepB a c :=
  ⟨k.os.trans h.os, k.tape.trans h.tape, k.output.trans h.output, Nat.le_trans h.size k.size, fun g cs t fr hg h1 h2 => k.block g cs t fr (h.block g cs t fr hg h1 h2) h1 h2⟩
theorem KeepB.drew {a b : World} (h : KeepB a b) : KeepB a b.drew := ⟨h.os, h.tape, h.output, h.size, h.block⟩

theorem infoU8 : (Tryz.prog.info? 5).map (fun i => (i.zero, i.size, i.bytes)) = some (some (.int .u8 0), 1, 1) := by kernel_rfl

theorem sizeBld : (Tryz.prog.info? 115).map (·.size) = some 2 := by kernel_rfl
theorem liesBld : liesAt Tryz.prog Tryz.prog.depth 115 (2 / Tryz.prog.cellsOf 115) 0 115 1 = true := by kernel_rfl
set_option maxRecDepth 100000 in
theorem copyCheck_any (B b : Nat) (bs : List Value) (w : World) (h : Lib.IsBuilder 115 5 B b bs w) :
    Calls Tryz.prog 122 #[.pointer (some ⟨b, 0, none⟩)] w fun e w' => e = .returned (.tuple #[]) ∧ Lib.BuilderAt 115 5 B b (.pointer (some ⟨b, 0, none⟩)) bs w' ∧ Below B w w' ∧ KeepB w w' := by
  rcases h with h | h
  · have hB := h.1
    have hc := h.cell0
    have hf := h.frozen0
    have hsh := h.shape
    have HU := Lib.hid (h.used (.pointer (some ⟨b, 0, none⟩)))
    have HK : Hid (KeepB w (w.setCell ⟨b, 0, none⟩ (.pointer (some ⟨b, 0, none⟩)))) := by
      obtain ⟨_, v, hb, _⟩ := h
      refine ⟨rfl, rfl, rfl, by simp [World.setCell], fun g cs t fr hg h1 h2 => heap_set_other hg _ (fun e => ?_) _⟩
      have e' : g = b := e
      subst e'
      rw [hb] at hg
      injection hg with hg
      injection hg with _ ht
      exact h1 ht.symm
    clear h
    go_enter Tryz.func122, Tryz.ntmps122
    obtain ⟨j, hj, hjs⟩ := Option.map_eq_some_iff.1 sizeBld
    have HJ := Lib.hid hj
    clear hj
    go_wp2_with fail
    rw [Lib.run_to_unsafe w ⟨b, 0, none⟩ Tryz.underlying112 Tryz.underlying172 HJ.out (by rw [hjs]; decide) hsh (Nat.zero_lt_succ 1)]
    simp only [Result.andThen]
    rw [Oper.upon_value]
    go_wp2_with fail
    rw [run_callFunc_extern Tryz.func135 (by kernel_rfl) (by kernel_rfl) (by kernel_rfl) (e := Extern.AbiNoEscape.same) (by kernel_rfl)]
    rw [Lib.run_noEscape]
    simp only [Result.andThen]
    rw [Oper.upon_value]
    go_wp2_with fail
    rw [Lib.run_from_unsafe w ⟨b, 0, none⟩ Tryz.underlying172 Tryz.underlying112 HJ.out hsh liesBld]
    simp only [Result.andThen]
    rw [Oper.upon_value]
    go_wp2_with fail
    go_end0
    exact ⟨rfl, HU.out, (Below.refl B w).setCell (p := ⟨b, 0, none⟩) hB _, HK.out⟩
  · have hc := h.cell0
    have H := Lib.hid h
    clear h
    obtain ⟨j, hj, _⟩ := Option.map_eq_some_iff.1 sizeBld
    have HJ := Lib.hid hj
    clear hj
    go_enter Tryz.func122, Tryz.ntmps122
    go_wp2_with fail
    rw [Lib.run_neq_ptr_same w _ Tryz.underlying112 HJ.out]
    go_wp2_with fail
    go_end0
    exact ⟨rfl, H.out, Below.refl B _, KeepB.refl _⟩

theorem bld_keep {w1 w2 : World} {b : Nat} {p v : Value} {t : TypeId} (hg2 : w1.grownBy w2 v.ownBlock) (hb : w1.heap[b]? = some (.cells #[p, v] t (0, 0))) (hne : v.ownBlock ≠ some b) :
    w2.cell? ⟨b, 1, none⟩ = some v ∧ w2.frozen? ⟨b, 1, none⟩ = false ∧ Hid (w2.heap[b]? = some (.cells #[p, v] t (0, 0))) := by
  have hb2 := grown_keep hg2 hb (fun e => hne e.symm)
  exact ⟨by rw [cell_of_heap hb2]; rfl, frozen_of_heap hb2, hb2⟩
set_option maxRecDepth 100000 in
/-- WriteByte. -/
theorem writeByte_any (B b : Nat) (bs : List Value) (c : Int) (w : World) (h : Lib.IsBuilder 115 5 B b bs w) (hlen : bs.length + 1 ≤ 8388608) (hBw : B ≤ w.heap.size) :
    Calls Tryz.prog 108 #[.pointer (some ⟨b, 0, none⟩), .int .u8 c] w fun e w' => e = .returned .nilIface ∧ Lib.IsBuilder 115 5 B b (bs ++ [.int .u8 c]) w' ∧ Below B w w' ∧ KeepB w w' := by
  go_enter Tryz.func108, Tryz.ntmps108
  go_wp2_with fail
  refine (copyCheck_any B b bs w h).mono ?_
  rintro e w1 ⟨rfl, ⟨hB, v, hb, hown, hne⟩, hBl, hK⟩
  have hc1 : w1.cell? ⟨b, 1, none⟩ = some v := by rw [cell_of_heap hb]; rfl
  have HB := Lib.hid hb
  have hsz := hBl.size
  have hlt := heap_lt hb
  clear hb h
  go_wp2_with (at_builtin; refine wpList_appg rfl _ _ _ rfl Tryz.underlying113 infoU8 rfl (by omega) B w1 hown (by omega) rfl 1 #[.int .u8 c] rfl (laid_below _ _) (heap_alloc_new _ _) rfl (by simp [Value.oneCell']) (by omega) (by unfold maxLen; omega) (by omega) ?_; intro g cap w2 hown2 hg2; obtain ⟨hc2, hf2, HB2⟩ := bld_keep hg2 HB.out hne)
  go_ret
  refine ⟨rfl, .inr (Lib.BuilderAt.put hB HB2.out (by simpa using hown2) (by decide)), ?_, ?_⟩
  · exact (hBl.trans ((Below.refl B w1).grown hg2 (by omega) fun k hk => (hown.lt k hk).1)).setCell hB _
  · refine hK.trans ⟨hg2.os, hg2.tape, hg2.output, by simpa [World.setCell] using hg2.size, fun g' cs t fr hg' h1 h2 => ?_⟩
    have e1 := grown_keep hg2 hg' (own_ne_block hown hg' (fun e => h2 e.symm))
    exact heap_set_other e1 _ (heap_ne e1 HB2.out h1) _
end YtkiaclajjlidoaaGreatDoor
end Go.Proofs

/- Numbers of one digit at this seat, read and written by the library's functions; digits and ReadDecimal of the program. -/
namespace Go.Proofs.YtkiaclajjlidoaaGreatDoor
open Go.RowKit
set_option linter.all false

theorem trimLeft_any (s : ByteArray) (w : World) :
    Calls Tryz.prog 85 #[.string s, .string ⟨#[48, 49, 50, 51, 52, 53, 54, 55, 56, 57]⟩] w fun e w' => e = .returned (.string ⟨(Lib.trimLeftS s.data.toList [48, 49, 50, 51, 52, 53, 54, 55, 56, 57]).toArray⟩) ∧ Below w.heap.size w w' :=
  Any.strings_TrimLeft_laid Tryz.layTrimLeft (by kernel_rfl) s ⟨#[48, 49, 50, 51, 52, 53, 54, 55, 56, 57]⟩ w (by decide) (ascii_of_all (by decide))
theorem cut_contains (b : UInt8) : ([48, 49, 50, 51, 52, 53, 54, 55, 56, 57] : List UInt8).contains b = digB b := by
  rw [Bool.eq_iff_iff]
  simp only [List.contains_cons, List.contains_nil, Bool.or_false, Bool.or_eq_true, beq_iff_eq, digB, Bool.and_eq_true, decide_eq_true_eq, ← UInt8.toNat_inj]
  simp
  omega
theorem dig_is {d : Nat} (h : d < 10) : digB (UInt8.ofNat (48 + d)) = true := by
  unfold digB
  rw [dig_toNat h]
  simp; omega
/-- A text that begins with just one digit. -/
theorem trim_one {d : Nat} (h : d < 10) {r : List UInt8} (hr : digB (r.headD 0) = false) : Lib.trimLeftS (UInt8.ofNat (48 + d) :: r) [48, 49, 50, 51, 52, 53, 54, 55, 56, 57] = r := by
  unfold Lib.trimLeftS
  rw [List.dropWhile_cons, if_pos (by rw [cut_contains]; exact dig_is h)]
  cases r with
  | nil => rfl
  | cons c r => rw [List.dropWhile_cons, if_neg]; rw [cut_contains]; simpa using hr
theorem formatSmallB (i : Nat) (hi : i < 100) (w : World) :
    Calls Tryz.prog 105 #[.int .i64 i, .int .i64 10] w fun e w' => e = .returned (.string ⟨(Lib.decDigits i).toArray⟩) ∧ w' = w := Any.strconv_FormatInt_10_small Tryz.layFormatB i hi w
theorem decimalDig (d : Nat) (hd : d < 10) (w : World) :
    Calls Tryz.prog 87 #[.int .i64 d] w fun e w' => e = .returned (.string ⟨[UInt8.ofNat (48 + d)].toArray⟩) ∧ w = w' := by
  have HD := Lib.hid (Lib.decDigits_one hd)
  go_enter Tryz.func87, Tryz.ntmps87
  go_wp2_with (go_at_call 105; refine (formatSmallB d (by omega) _).mono ?_; rintro e w' ⟨rfl, rfl⟩)
  go_ret
  exact ⟨by first | rfl | (rw [HD.out]; rfl), rfl⟩
theorem parse_dig : ∀ d : Fin 10, Lib.parseIntB 64 [UInt8.ofNat (48 + d.val)] = .ok (d.val : Int) := by decide
theorem trimP_dig : ∀ d : Fin 10, Lib.trimPrefix [UInt8.ofNat (48 + d.val)] [45] = [UInt8.ofNat (48 + d.val)] := by decide
theorem parseDig (s : ByteArray) (d : Nat) (hd : d < 10) (hs : s.data.toList = [UInt8.ofNat (48 + d)]) (w : World) :
    Calls Tryz.prog 86 #[.string s, .int .i64 10, .int .i64 64] w fun e w' => e = .returned (.tuple #[.int .i64 d, .nilIface]) ∧ Below w.heap.size w w' := by
  have hsz : s.size = 1 := by have := congrArg List.length hs; simpa using this
  refine (Any.strconv_ParseInt_10_at64_ok Tryz.layParseInt s (by omega) (d : Int) (by rw [hs]; exact parse_dig ⟨d, hd⟩) w).mono ?_
  rintro e w' ⟨rfl, h⟩
  refine ⟨rfl, ?_⟩
  rcases h with rfl | ⟨t, rfl⟩
  · exact Below.refl _ _
  · exact Go.Joins.below_bytesWorld _ _ _ _ (Nat.le_refl _)
theorem trimPrefixAny (s p : ByteArray) (w : World) :
    Calls Tryz.prog 88 #[.string s, .string p] w fun e w' => e = .returned (.string ⟨(Lib.trimPrefix s.data.toList p.data.toList).toArray⟩) ∧ w = w' :=
  (Any.strings_TrimPrefix Tryz.layTrimPrefix s p w).mono fun _ _ h => ⟨h.1, h.2.symm⟩
set_option maxRecDepth 100000 in
theorem writeStringAny (B b : Nat) (bs : List Value) (s : ByteArray) (w : World) (h : Lib.IsBuilder 115 5 B b bs w) (hlen : bs.length + s.size ≤ 8388608) (hBw : B ≤ w.heap.size) :
    Calls Tryz.prog 107 #[.pointer (some ⟨b, 0, none⟩), .string s] w fun e w' => e = .returned (.tuple #[.int .i64 s.size, .nilIface]) ∧ Lib.IsBuilder 115 5 B b (bs ++ Lib.strCells s) w' ∧ Below B w w' := by
  obtain ⟨i0, hi, hz0, hz1, hz2⟩ := info_parts infoU8
  go_enter Tryz.func107, Tryz.ntmps107
  go_wp2_with fail
  refine (copyCheck_any B b bs w h).mono ?_
  rintro e w1 ⟨rfl, ⟨hB, v, hb, hown, hne⟩, hBl, hK⟩
  have hc1 : w1.cell? ⟨b, 1, none⟩ = some v := by rw [cell_of_heap hb]; rfl
  have HB := Lib.hid hb
  have hsz := hBl.size
  clear hb h
  go_wp2_with (at_builtin; refine Lib.wpList_append_own_string _ rfl _ _ 113 9 rfl B 5 i0 Tryz.underlying113 Tryz.underlying9 hi hz0 hz1 hz2 _ _ _ rfl hown s rfl (by unfold maxLen; omega) (by omega) (by omega) ?_; intro v2 w2 hown2 hg2 hx2; obtain ⟨hc2, hf2, HB2⟩ := bld_keep hg2 HB.out hne; obtain ⟨A2, c2, rfl⟩ := own_form hown2)
  go_ret2
  refine ⟨rfl, .inr (Lib.BuilderAt.put hB HB2.out (by simpa [Lib.strCells_length] using hown2) (by decide)), ?_⟩
  exact (hBl.trans ((Below.refl B w1).grown hg2 (by omega) fun k hk => (hown.lt k hk).1)).setCell hB _
theorem writeByteAny (B b : Nat) (bs : List Value) (c : Int) (w : World) (h : Lib.IsBuilder 115 5 B b bs w) (hlen : bs.length + 1 ≤ 8388608) (hBw : B ≤ w.heap.size) :
    Calls Tryz.prog 108 #[.pointer (some ⟨b, 0, none⟩), .int .u8 c] w fun e w' => e = .returned .nilIface ∧ Lib.IsBuilder 115 5 B b (bs ++ [.int .u8 c]) w' ∧ Below B w w' :=
  (writeByte_any B b bs c w h hlen hBw).mono fun _ _ h => ⟨h.1, h.2.1, h.2.2.1⟩
theorem builderString (B b : Nat) (l : List UInt8) (w : World) (h : Lib.IsBuilder 115 5 B b (Lib.byteCells l) w) (hBw : B ≤ w.heap.size) :
    Calls Tryz.prog 90 #[.pointer (some ⟨b, 0, none⟩)] w fun e w' => e = .returned (.string ⟨l.toArray⟩) ∧ Below B w w' := Tryz.Builder_String_any B b l w h hBw
theorem strCells_list (l : List UInt8) : Lib.strCells ⟨l.toArray⟩ = Lib.byteCells l := by simp [Lib.strCells, Lib.byteCells]
theorem byteCellsL_app (a b : List UInt8) : Lib.byteCells (a ++ b) = Lib.byteCells a ++ Lib.byteCells b := by simp [Lib.byteCells]
theorem byteCellsL_len (a : List UInt8) : (Lib.byteCells a).length = a.length := by simp [Lib.byteCells]

/-- A text that begins with just one digit: how many digits. -/
theorem digitsOne (s : ByteArray) (d : Nat) (r : List UInt8) (hs : s.data.toList = UInt8.ofNat (48 + d) :: r) (hd : d < 10) (hr : digB (r.headD 0) = false) (hl : r.length ≤ 100000) (w : World) :
    Calls Tryz.prog 67 #[.string s] w fun e w' => e = .returned (.int .i64 1) ∧ Below w.heap.size w w' := by
  have hsz : s.size = r.length + 1 := by have := congrArg List.length hs; simpa using this
  have hT : Hid (∀ W, Calls Tryz.prog 85 #[.string s, .string ⟨#[48, 49, 50, 51, 52, 53, 54, 55, 56, 57]⟩] W fun e w' => e = .returned (.string ⟨r.toArray⟩) ∧ Below W.heap.size W w') := by
    intro W
    have := trimLeft_any s W
    rw [hs, trim_one hd hr] at this
    exact this
  have hq : (⟨r.toArray⟩ : ByteArray).size = r.length := by simp [ByteArray.size]
  have hw1 : IntKind.i64.wrap ((s.size : Int) - (r.length : Int)) = 1 := by rw [hsz]; rw [IntWalk.i64_in _ (by omega)]; omega
  clear hs hd hr
  go_enter Tryz.func67, Tryz.ntmps67
  go_wp2_with (go_at_call 85; refine (hT.out _).mono ?_; rintro e w1 ⟨rfl, hb⟩)
  go_ret
  exact ⟨ret_int (by omega), hb⟩
theorem readDecimalDig (s : ByteArray) (d : Nat) (hd : d < 10) (hs : s.data.toList = [UInt8.ofNat (48 + d)]) (w : World) :
    Calls Tryz.prog 68 #[.string s] w fun e w' => e = .returned (.tuple #[.int .i64 d, .bool true]) ∧ Below w.heap.size w w' := by
  have HP := Lib.hid (parseDig s d hd hs)
  have hsz : s.size = 1 := by have := congrArg List.length hs; simpa using this
  have he : s = ⟨[UInt8.ofNat (48 + d)].toArray⟩ := by rw [← hs]
  have HDC : Hid (∀ W, Calls Tryz.prog 87 #[.int .i64 d] W fun e w' => e = .returned (.string s) ∧ W = w') := by
    intro W; rw [he]; exact decimalDig d hd W
  have HTP : Hid (∀ W, Calls Tryz.prog 88 #[.string s, .string ⟨#[45]⟩] W fun e w' => e = .returned (.string s) ∧ W = w') := by
    intro W
    have := trimPrefixAny s ⟨#[45]⟩ W
    rw [hs] at this
    have e := trimP_dig ⟨d, hd⟩
    simp only at e
    rw [e, ← he] at this
    exact this
  clear hd hs he
  go_enter Tryz.func68, Tryz.ntmps68
  go_wp2_with fail
  refine (HP.out _).mono ?_
  rintro e w1 ⟨rfl, hb⟩
  go_wp2_with fail
  refine (HDC.out _).mono ?_
  rintro e w2 ⟨rfl, rfl⟩
  go_wp2_with fail
  refine (HTP.out _).mono ?_
  rintro e w2 ⟨rfl, rfl⟩
  go_wp2_with fail
  go_ret2
  exact ⟨rfl, hb⟩
end Go.Proofs.YtkiaclajjlidoaaGreatDoor
