/- DepthOf, the reference's and the program's. -/
import Derived.Test.YthanekchopkblaaTreeHeap
import Derived.Test.YthanekchopkblaaHelpInt
namespace Go.Proofs.Ythanekchopkblaa
open Go.RowKit
set_option linter.all false

/-- The stack of depths over a list of trees, its top first. -/
def dstk : List Bool → List Nat
  | [] => []
  | false :: l => 0 :: dstk l
  | true :: l => match dstk l with
    | a :: b :: r => (1 + max a b) :: r
    | r => r
theorem dstk_enc (x : T) : ∀ r, dstk (x.enc ++ r) = x.depth :: dstk r := by
  induction x with
  | nil => intro r; simp [T.enc, dstk, T.depth]
  | pair a b ha hb =>
    intro r
    simp only [T.enc, List.cons_append, List.append_assoc, dstk, ha, hb, T.depth]
theorem dstk_encs (ts : List T) : dstk (encs ts) = ts.map T.depth := by
  induction ts with
  | nil => rfl
  | cons t ts ih =>
    have : encs (t :: ts) = t.enc ++ encs ts := by simp [encs]
    rw [this, dstk_enc, ih]; rfl
theorem encs_tail {l : List Bool} {b : Bool} {ts : List T} (h : b :: l = encs ts) : ∃ ts', l = encs ts' ∧ (b = true → 2 ≤ ts'.length) := by
  cases ts with
  | nil => simp [encs] at h
  | cons t ts =>
    cases t with
    | nil =>
      simp [encs, T.enc] at h
      exact ⟨ts, by rw [h.2]; simp [encs], by rw [h.1]; simp⟩
    | pair x y =>
      simp [encs, T.enc] at h
      exact ⟨x :: y :: ts, by rw [h.2]; simp [encs], by intro _; simp⟩
theorem encs_drop {l : List Bool} {ts : List T} (h : l = encs ts) : ∀ k, ∃ ts', l.drop k = encs ts' := by
  intro k
  induction k with
  | zero => exact ⟨ts, by simpa using h⟩
  | succ k ih =>
    obtain ⟨ts', h'⟩ := ih
    rcases Nat.lt_or_ge k l.length with hk | hk
    · rw [List.drop_eq_getElem_cons hk] at h'
      obtain ⟨ts2, h2, _⟩ := encs_tail h'
      exact ⟨ts2, h2⟩
    · exact ⟨[], by rw [List.drop_of_length_le (by omega)]; rfl⟩
theorem dstk_two {x : T} {k : Nat} (h : x.enc[k]? = some true) : ∃ a b r, dstk (x.enc.drop (k + 1)) = a :: b :: r := by
  have hk := List.getElem?_eq_some_iff.1 h
  obtain ⟨ts, hts⟩ := encs_drop (l := x.enc) (ts := [x]) (by simp [encs]) k
  rw [List.drop_eq_getElem_cons hk.1, hk.2] at hts
  obtain ⟨ts2, h2, h3⟩ := encs_tail hts
  rw [h2, dstk_encs]
  match ts2, h3 rfl with
  | a :: b :: r, _ => exact ⟨_, _, _, rfl⟩
theorem dstk_false {l : List Bool} {k : Nat} (h : l[k]? = some false) : dstk (l.drop k) = 0 :: dstk (l.drop (k + 1)) := by
  have hk := List.getElem?_eq_some_iff.1 h
  rw [List.drop_eq_getElem_cons hk.1, hk.2]; rfl
theorem dstk_true {l : List Bool} {k : Nat} {a b : Nat} {r : List Nat} (h : l[k]? = some true) (h2 : dstk (l.drop (k + 1)) = a :: b :: r) : dstk (l.drop k) = (1 + max a b) :: r := by
  have hk := List.getElem?_eq_some_iff.1 h
  rw [List.drop_eq_getElem_cons hk.1, hk.2]; simp [dstk, h2]
theorem dstk_le (l : List Bool) : (dstk l).length ≤ l.length ∧ ∀ d ∈ dstk l, d ≤ l.length := by
  induction l with
  | nil => simp [dstk]
  | cons b l ih =>
    cases b with
    | false =>
      simp [dstk]
      exact ⟨ih.1, fun d hd => by have := ih.2 d hd; omega⟩
    | true =>
      simp only [dstk]
      split
      · rename_i a b r he
        rw [he] at ih
        simp at ih ⊢
        refine ⟨by omega, by omega, fun d hd => ?_⟩
        have := ih.2.2.2 d hd; omega
      · refine ⟨by simp; omega, fun d hd => ?_⟩
        have := ih.2 d hd
        simp; omega

def depthOf (t : List Bool) : Int × Int := if isTreeB t then (((dstk t).headD 0 : Nat), 0) else (0, 1)
theorem depthOf_enc (x : T) (h : x.nodes ≤ 2000) : depthOf x.enc = ((x.depth : Int), 0) := by
  unfold depthOf
  rw [if_pos ((isTree_iff _).2 ⟨by rw [T.length_enc]; exact h, x, rfl⟩)]
  have := dstk_enc x []
  rw [List.append_nil] at this
  rw [this]; rfl

theorem l00Max_any (a b : Int) (w : World) : Calls Try.prog 65 #[.int .i64 a, .int .i64 b] w fun e w' => e = .returned (.int .i64 (max a b)) ∧ w = w' := by
  by_cases h : b < a
  · go_enter Try.func65, Try.ntmps65
    go_wp2
    go_ret
    exact ⟨ret_int (by omega), rfl⟩
  · go_enter Try.func65, Try.ntmps65
    go_wp2
    go_ret
    exact ⟨ret_int (by omega), rfl⟩

theorem l21Is_is (b off n c : Nat) (t : List Bool) (v : Bool) (hv : isTreeB t = v) (w : World) (hs : Sl w b off (t.map .bool)) (hl : t.length = n) (hn : n ≤ 4194304) :
    Calls Try.prog 51 #[.slice (some ⟨b, off, none⟩) n c] w fun e w' => e = .returned (.bool v) ∧ w = w' := by
  subst hv; exact l21Is_any b off n c t w hs hl hn
theorem isTree_is (b off n c : Nat) (t : List Bool) (v : Bool) (hv : isTreeB t = v) (w : World) (hs : Sl w b off (t.map .bool)) (hl : t.length = n) (hn : n ≤ 4194304) :
    Calls Try.prog 20 #[.slice (some ⟨b, off, none⟩) n c] w fun e w' => e = .returned (.bool v) ∧ w = w' := by
  subst hv; exact isTree_any b off n c t w hs hl hn

set_option maxRecDepth 100000 in
theorem implDepthOf_any (b off n c : Nat) (t : List Bool) (w : World) (hs : Sl w b off (t.map .bool)) (hl : t.length = n) (hn : n ≤ 1048576) :
    Calls Try.prog 34 #[.slice (some ⟨b, off, none⟩) n c] w fun e w' => e = .returned (.tuple #[.int .i64 (depthOf t).1, .int .i64 (depthOf t).2]) ∧ Below w.heap.size w w' := by
  have HL := Lib.hid hl; clear hl
  rcases Bool.eq_false_or_eq_true (isTreeB t) with h | h
  · obtain ⟨h1, x, hx⟩ := (isTree_iff t).1 h
    have H := Lib.hid h; clear h
    subst hx
    have hnn : x.nodes ≤ 2000 := by rw [← T.length_enc]; exact h1
    have HN : Hid (x.nodes = n) := by have := HL.out; rw [T.length_enc] at this; exact this
    clear h1
    rw [depthOf_enc x hnn]
    go_enter Try.func34, Try.ntmps34
    go_wp2_with fail
    refine (isTree_is b off n c x.enc true H.out _ hs HL.out (by omega)).mono ?_
    rintro e w' ⟨rfl, rfl⟩
    go_wp2_with fail
    refine (treeOf_any b off n c x _ hs HN.out (by omega)).mono ?_
    rintro e w1 ⟨p, rfl, ht, hB⟩
    go_wp2_with fail
    refine (depth_any _ x p w1 ht (by omega)).mono ?_
    rintro e w2 ⟨rfl, q, rfl⟩
    go_wp2_with fail
    go_ret2
    exact ⟨rfl, below_drewN hB q⟩
  · have H := Lib.hid h; clear h
    have HE : Hid (depthOf t = (0, 1)) := by unfold Hid depthOf; rw [H.out]; rfl
    go_enter Try.func34, Try.ntmps34
    go_wp2_with fail
    refine (isTree_is b off n c t false H.out _ hs HL.out (by omega)).mono ?_
    rintro e w' ⟨rfl, rfl⟩
    go_wp2_with fail
    go_ret2
    rw [HE.out]
    exact ⟨rfl, Below.refl _ _⟩

def stkV (l : List Nat) : List Value := l.reverse.map fun d : Nat => Value.int .i64 (d : Int)
theorem own_cut {w : World} {base : Nat} {e : TypeId} {size g n cap m : Nat} {xs : List Value} (h : w.ownsRow base e size (.slice (some ⟨g, 0, none⟩) n cap) n xs) (hm : m ≤ n) : w.ownsRow base e size (.slice (some ⟨g, 0, none⟩) m cap) m (xs.take (m * size)) := by
  rcases h.2 with ⟨h', _⟩ | ⟨g', cap', cur, hv, hb, hh, hnc, hcm, hcs, htk⟩
  · cases h'
  · obtain ⟨rfl, rfl⟩ : g = g' ∧ cap = cap' := by simpa using hv
    have hle : m * size ≤ n * size := Nat.mul_le_mul_right _ hm
    refine ⟨by rw [List.length_take, h.1]; omega, .inr ⟨g, cap, cur, rfl, hb, hh, by omega, hcm, hcs, ?_⟩⟩
    rw [← htk, List.take_take]
    congr 1
    omega

set_option maxRecDepth 100000 in
set_option maxHeartbeats 1000000 in
theorem specDepthOf_any (b off n c : Nat) (t : List Bool) (w : World) (hs : Sl w b off (t.map .bool)) (hl : t.length = n) (hn : n ≤ 1048576) :
    Calls Try.prog 33 #[.slice (some ⟨b, off, none⟩) n c] w fun e w' => e = .returned (.tuple #[.int .i64 (depthOf t).1, .int .i64 (depthOf t).2]) ∧ Below w.heap.size w w' := by
  have HL := Lib.hid hl; clear hl
  rcases Bool.eq_false_or_eq_true (isTreeB t) with h | h
  · obtain ⟨h1, x, hx⟩ := (isTree_iff t).1 h
    have H := Lib.hid h; clear h
    subst hx
    have hnn : x.nodes ≤ 2000 := by rw [← T.length_enc]; exact h1
    have hn2 : n ≤ 2000 := by have := HL.out; omega
    rw [depthOf_enc x hnn]
    have HX0 := Lib.hid (dstk_enc x [])
    clear h1 hnn
    go_enter Try.func33, Try.ntmps33
    go_wp2_with fail
    refine (l21Is_is b off n c x.enc true H.out _ hs HL.out (by omega)).mono ?_
    rintro e w' ⟨rfl, rfl⟩
    go_wp2_with fail
    go_loopw [4, 5] (fun v i wr => ∃ k : Nat, k ≤ n ∧ i = .int .i64 ((k : Int) - 1) ∧ wr.ownsRow w.heap.size 2 1 v (dstk (x.enc.drop k)).length (stkV (dstk (x.enc.drop k))) ∧ Below w.heap.size w wr) (fun _ i _ => (intOf i + 1).toNat)
    case atStart =>
      refine ⟨n, Nat.le_refl _, rfl, ?_, laid_below _ _⟩
      rw [List.drop_of_length_le (by have := HL.out; omega)]
      exact World.ownsRow_made _ #[] 0 (by simp) (by simp [maxLen]) rfl
    case round =>
      obtain ⟨k, hk, rfl, hown, hB⟩ := hrel
      rcases Nat.eq_zero_or_pos k with h0 | h0
      · subst h0
        have e0 : dstk (List.drop 0 x.enc) = [x.depth] := by have := HX0.out; rw [List.append_nil] at this; exact this
        rw [e0] at hown
        obtain ⟨g, cap, hv, _, _⟩ := hown.form (by simp)
        subst hv
        have hc : wr.cell? ⟨g, 0, none⟩ = some (.int .i64 (x.depth : Int)) := by rw [hown.cellAt 0 (by simp)]; rfl
        clear e0
        go_wp2_with fail
        go_ret2
        exact ⟨rfl, hB⟩
      · obtain ⟨m, rfl⟩ : ∃ m, k = m + 1 := ⟨k - 1, by omega⟩
        have e1 : (((m + 1 : Nat) : Int) - 1) = (m : Int) := by omega
        rw [e1]
        clear e1
        obtain ⟨y, HY, hy⟩ := map_at Value.bool x.enc (k := m) (by have := HL.out; omega)
        have hca := (hs.below' hB).at hy
        clear hy
        have hle := (dstk_le (x.enc.drop (m + 1))).1
        rw [List.length_drop, HL.out] at hle
        cases y with
        | false =>
          have HF := Lib.hid (dstk_false HY.out)
          go_wp2_with (at_builtin; refine wpList_app rfl _ _ _ rfl Try.underlying27 infoInt64S rfl (by omega) w wr hown hB rfl 1 #[.int .i64 0] rfl (laid_below _ _) (heap_alloc_new _ _) rfl (by simp [Value.oneCell']) (by omega) (by unfold maxLen; omega) (by omega) ?_; intro g cap w1 hown1 hB1)
          go_roundw
          case rel => exact ⟨m, by omega, rfl, by rw [HF.out]; simpa [stkV] using hown1, hB1⟩
          case measure => simp [intOf]
        | true =>
          obtain ⟨d1, d2, r, hd⟩ := dstk_two HY.out
          have HT := Lib.hid (dstk_true HY.out hd)
          have hd1 : d1 ≤ n ∧ d2 ≤ n := by
            have := (dstk_le (x.enc.drop (m + 1))).2
            rw [hd, List.length_drop, HL.out] at this
            have a1 := this d1 (by simp); have a2 := this d2 (by simp)
            omega
          obtain ⟨hd1, hd2⟩ := hd1
          rw [hd] at hown hle
          clear hd
          simp only [List.length_cons] at hown hle
          obtain ⟨g, cap, hv, _, _⟩ := hown.form (by simp)
          subst hv
          have hcap : r.length + 1 + 1 ≤ cap := by
            rcases hown.2 with ⟨h', _⟩ | ⟨g', cap', cur, hv, _, _, hnc, _⟩
            · cases h'
            · obtain ⟨_, rfl⟩ : g = g' ∧ cap = cap' := by simpa using hv
              exact hnc
          have hc1 : wr.cell? ⟨g, r.length + 1, none⟩ = some (.int .i64 (d1 : Int)) := by rw [hown.cellAt _ (by omega)]; simp [stkV]
          have hc2 : wr.cell? ⟨g, r.length, none⟩ = some (.int .i64 (d2 : Int)) := by rw [hown.cellAt _ (by omega)]; simp [stkV]
          have hcut := own_cut hown (m := r.length) (by omega)
          have ecut : (stkV (d1 :: d2 :: r)).take (r.length * 1) = stkV r := by simp [stkV]
          rw [ecut] at hcut
          clear ecut hown
          go_wp2_with fail
          go_quiet ((go_at_call 65; exact quiet_eq (l00Max_any _ _ _)))
          have hmx : (1 : Int) + max (d1 : Int) (d2 : Int) = ((1 + max d1 d2 : Nat) : Int) := by omega
          have hmb : 1 + max d1 d2 ≤ 4000 := by omega
          go_wp2_with (at_builtin; refine wpList_app rfl _ _ _ rfl Try.underlying27 infoInt64S rfl (by omega) w (wr.drewN nq) hcut (below_drewN hB nq) rfl 1 #[.int .i64 ((1 + max d1 d2 : Nat) : Int)] rfl (laid_below _ _) (heap_alloc_new _ _) rfl (by simp [Value.oneCell']) (by omega) (by unfold maxLen; omega) (by omega) ?_; intro g cap w1 hown1 hB1)
          go_roundw
          case rel => exact ⟨m, by omega, rfl, by rw [HT.out]; simpa [stkV] using hown1, hB1⟩
          case measure => simp [intOf]
  · have H := Lib.hid h; clear h
    have HE : Hid (depthOf t = (0, 1)) := by unfold Hid depthOf; rw [H.out]; rfl
    go_enter Try.func33, Try.ntmps33
    go_wp2_with fail
    refine (l21Is_is b off n c t false H.out _ hs HL.out (by omega)).mono ?_
    rintro e w' ⟨rfl, rfl⟩
    go_wp2_with fail
    go_ret2
    rw [HE.out]
    exact ⟨rfl, Below.refl _ _⟩
end Go.Proofs.Ythanekchopkblaa
