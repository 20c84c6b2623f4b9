/- NumberOfTree on both sides; the program's listOfTree. -/
import Derived.Test.YtffcggagjeoagaaTreeItems
namespace Go.Proofs.Ytffcggagjeoagaa
open Go.RowKit
set_option linter.all false

theorem head_isNil (a : T) : ∃ r, a.enc = (!a.isNil) :: r := by
  cases a with
  | nil => exact ⟨[], rfl⟩
  | pair a b => exact ⟨a.enc ++ b.enc, rfl⟩
theorem Items.row {lo : Nat} {v : Value} {ts : List T} {us : List Value} {w : World} (h : Items lo v ts us w) {k : Nat} {a : T} (ha : ts[k]? = some a) : ∃ u, us[k]? = some u ∧ w.ownsRow lo 4 1 u a.nodes (a.enc.map .bool) := by
  have hl : us.length = ts.length := by have := h.inn.len; simpa [bRows, itsOf] using this
  have hk := (List.getElem?_eq_some_iff.1 ha).1
  have hu : us[k]? = some (us[k]'(by omega)) := List.getElem?_eq_getElem _
  have hi : (bRows ts)[k]? = some (a.enc.length, rows oneB a.enc) := by unfold bRows itsOf; simp [ha]
  have := h.inn.own k _ _ hu hi
  simp only [T.length_enc, rows_oneB] at this
  exact ⟨_, hu, this⟩

/-- The number of nil trees. -/
def cntOf (x : T) : Int × Bool := if x.spine.all T.isNil then ((x.spine.length : Int), decide (x.spine.length ≤ 100)) else (0, false)

set_option maxRecDepth 100000 in
theorem l21Count_any (b off n c : Nat) (x : T) (w : World) (hs : Sl w b off (x.enc.map .bool)) (hl : x.nodes = n) (hn : n ≤ 2000) (hc : n ≤ c) :
    Calls Try.prog 55 #[.slice (some ⟨b, off, none⟩) n c] w fun e w' => e = .returned (.tuple #[.int .i64 (cntOf x).1, .bool (cntOf x).2]) ∧ Below w.heap.size w w' := by
  have HSP := Lib.hid (spine_le x).1
  have HLN := Lib.hid hl
  go_enter Try.func55, Try.ntmps55
  go_wp2_with fail
  refine (l21Items_any b off n c x w hs hl hn hc).mono ?_
  rintro e w1 ⟨v1, us, rfl, hit, hb1⟩
  obtain ⟨ls, hls⟩ : ∃ ls, ls = x.spine.length := ⟨_, rfl⟩
  have hown := hit.own
  rw [← hls] at hown
  have hls2 : ls ≤ 1000 := by have := HSP.out; have := HLN.out; omega
  have HLS : Hid (x.spine.length = ls) := hls.symm
  clear hls hl
  obtain ⟨A1, c1, rfl⟩ := own_form hown
  have HIT := Lib.hid hit; clear hit
  go_wp2
  go_loop [5] (fun i => ∃ k : Nat, k ≤ ls ∧ i = .int .i64 k ∧ Hid (∀ j a, j < k → x.spine[j]? = some a → a.isNil = true)) (fun i => ls - (intOf i).toNat)
  case atStart => exact ⟨0, Nat.zero_le _, rfl, by intro j a hj; omega⟩
  case round =>
    obtain ⟨k, hk, rfl, HR⟩ := hrel
    by_cases hlt : k < ls
    · obtain ⟨a, HA⟩ := hget HLS hlt
      obtain ⟨u, hu, hrow⟩ := HIT.out.row HA.out
      obtain ⟨g, rfl, _, _⟩ := own_addr0 hown (by omega)
      obtain ⟨A2, c2, rfl⟩ := own_form hrow
      obtain ⟨g2, rfl, _, _⟩ := own_addr0 hrow (by have := a.nodes_pos; omega)
      obtain ⟨r, hr⟩ := head_isNil a
      have hca : w1.cell? ⟨g, k, none⟩ = some (.slice (some ⟨g2, 0, none⟩) a.nodes c2) := by rw [hown.cellAt k (by omega)]; exact hu
      have hcb : w1.cell? ⟨g2, 0, none⟩ = some (.bool (!a.isNil)) := by rw [hrow.cellAt 0 (by have := a.nodes_pos; omega), hr]; rfl
      have hap := a.nodes_pos
      obtain ⟨m, hm⟩ : ∃ m, m = a.nodes := ⟨_, rfl⟩
      rw [← hm] at hca hap
      clear hu hrow hr hm
      rcases Bool.eq_false_or_eq_true a.isNil with hv | hv
      · rw [hv] at hcb
        have HV := Lib.hid hv; clear hv
        go_wp2
        go_round
        case rel => exact ⟨k + 1, by omega, by go_num, by
          intro j a' hj ha'
          by_cases ej : j = k
          · subst ej
            have h2 := HA.out
            rw [ha'] at h2; injection h2 with h2; subst h2; exact HV.out
          · exact HR.out j a' (by omega) ha'⟩
        case measure => simp [intOf]; omega
      · rw [hv] at hcb
        have HV := Lib.hid hv; clear hv
        have HC : Hid (cntOf x = (0, false)) := by
          unfold Hid cntOf
          rw [if_neg]
          intro hall
          have := List.all_eq_true.1 hall a (List.mem_of_getElem? HA.out)
          rw [HV.out] at this; cases this
        go_wp2
        go_ret2
        rw [HC.out]
        exact ⟨rfl, hb1⟩
    · have HC : Hid (cntOf x = ((ls : Int), decide (ls ≤ 100))) := by
        unfold Hid cntOf
        rw [if_pos, HLS.out]
        rw [List.all_eq_true]
        intro a ha
        obtain ⟨j, hj⟩ := List.getElem?_of_mem ha
        exact HR.out j a (by have := HLS.out; have := (List.getElem?_eq_some_iff.1 hj).1; omega) hj
      by_cases h100 : ls ≤ 100
      · have h1 : (ls : Int) ≤ 100 := by omega
        go_wp2
        go_ret2
        rw [HC.out, decide_eq_true h100]
        exact ⟨rfl, hb1⟩
      · have h1 : ¬ (ls : Int) ≤ 100 := by omega
        go_wp2
        go_ret2
        rw [HC.out, decide_eq_false h100]
        exact ⟨rfl, hb1⟩

theorem numOf_cnt (x : T) : numOf x = if (cntOf x).2 then ((cntOf x).1, 0) else (0, 9) := by
  unfold numOf cntOf
  cases h : x.spine.all T.isNil with
  | true =>
    by_cases h2 : x.spine.length ≤ 100
    · simp [h2]
    · simp [h2]
  | false => simp

set_option maxRecDepth 100000 in
theorem specNumberOfTree_any (b off n c : Nat) (t : List Bool) (w : World) (hs : Sl w b off (t.map .bool)) (hl : t.length = n) (hn : n ≤ 1048576) (hc : n ≤ c) :
    Calls Try.prog 12 #[.slice (some ⟨b, off, none⟩) n c] w fun e w' => e = .returned (.tuple #[.int .i64 (numberOfTree t).1, .int .i64 (numberOfTree t).2]) ∧ Below w.heap.size w w' := by
  have HL := Lib.hid hl; clear hl
  rcases Bool.eq_false_or_eq_true (isTreeB t) with h | h
  · obtain ⟨h1, x, hx⟩ := (isTree_iff t).1 h
    have H := Lib.hid h; clear h
    subst hx
    have hnn : x.nodes ≤ 2000 := by rw [← T.length_enc]; exact h1
    have HN : Hid (x.nodes = n) := by have := HL.out; rw [T.length_enc] at this; exact this
    clear h1
    have HM : Hid (numberOfTree x.enc = numOf x) := numberOf_enc x hnn
    have HC := Lib.hid (numOf_cnt x)
    obtain ⟨p, hp⟩ : ∃ p, p = cntOf x := ⟨_, rfl⟩
    have hcnt := l21Count_any b off n c x w hs HN.out (by have := HN.out; omega) hc
    rw [← hp] at HC hcnt
    obtain ⟨p1, p2⟩ := p
    have HCN := Lib.hid hcnt
    clear hp hcnt
    cases p2
    · go_enter Try.func12, Try.ntmps12
      go_wp2_with fail
      refine (l21Is_is b off n c x.enc true H.out _ hs HL.out (by omega)).mono ?_
      rintro e w' ⟨rfl, rfl⟩
      go_wp2_with fail
      refine HCN.out.mono ?_
      rintro e w1 ⟨rfl, hb1⟩
      go_wp2_with fail
      go_ret2
      rw [HM.out, HC.out]
      exact ⟨rfl, hb1⟩
    · go_enter Try.func12, Try.ntmps12
      go_wp2_with fail
      refine (l21Is_is b off n c x.enc true H.out _ hs HL.out (by omega)).mono ?_
      rintro e w' ⟨rfl, rfl⟩
      go_wp2_with fail
      refine HCN.out.mono ?_
      rintro e w1 ⟨rfl, hb1⟩
      go_wp2_with fail
      go_ret2
      rw [HM.out, HC.out]
      exact ⟨rfl, hb1⟩
  · have H := Lib.hid h; clear h
    have HE : Hid (numberOfTree t = (0, 1)) := by unfold Hid numberOfTree; rw [H.out]; rfl
    go_enter Try.func12, Try.ntmps12
    go_wp2_with fail
    refine (l21Is_is b off n c t false H.out _ hs HL.out (by omega)).mono ?_
    rintro e w' ⟨rfl, rfl⟩
    go_wp2_with fail
    go_ret2
    rw [HE.out]
    exact ⟨rfl, Below.refl _ _⟩

theorem infoTreeP' : (Try.prog.info? 71).map (fun i => (i.zero, i.size, i.bytes)) = some (some (.pointer none), 1, 8) := by kernel_rfl

/-- Pointers that lead to trees. -/
def PTrs (B : Nat) (w : World) (xs : List T) (ps : List (Option Addr)) : Prop := ps.length = xs.length ∧ ∀ (j : Nat) (x : T) (p : Option Addr), xs[j]? = some x → ps[j]? = some p → Tr B w x p
theorem PTrs.below {B : Nat} {w w' : World} {xs : List T} {ps : List (Option Addr)} (h : PTrs B w xs ps) (hb : Below B w w') : PTrs B w' xs ps := ⟨h.1, fun j x p h1 h2 => (h.2 j x p h1 h2).below hb⟩
theorem PTrs.snoc {B : Nat} {w : World} {xs : List T} {ps : List (Option Addr)} {x : T} {p : Option Addr} (h : PTrs B w xs ps) (hx : Tr B w x p) : PTrs B w (xs ++ [x]) (ps ++ [p]) := by
  refine ⟨by simp [h.1], fun j y q h1 h2 => ?_⟩
  rcases snoc_at h1 with ⟨hj, h1⟩ | ⟨hj, rfl⟩
  · rcases snoc_at h2 with ⟨_, h2⟩ | ⟨hj2, _⟩
    · exact h.2 j y q h1 h2
    · have := h.1; omega
  · rcases snoc_at h2 with ⟨hj2, _⟩ | ⟨_, rfl⟩
    · have := h.1; omega
    · exact hx

set_option maxRecDepth 100000 in
set_option maxHeartbeats 1000000 in
theorem listOfTree_any (x : T) (p : Option Addr) (w : World) (h : Tr w.heap.size w x p) (hn : x.nodes ≤ 2000) :
    Calls Try.prog 57 #[.pointer p] w fun e w' => ∃ v ps, e = .returned v ∧ w'.ownsRow w.heap.size 71 1 v x.spine.length (ps.map .pointer) ∧ PTrs w.heap.size w' x.spine ps ∧ Below w.heap.size w w' := by
  have hsp := (spine_le x).1
  have HSP := Lib.hid (show 2 * x.spine.length + 1 ≤ 2000 by omega)
  clear hsp hn
  go_enter Try.func57, Try.ntmps57
  go_wp2
  go_loopg [0, 3] x.spine.length (fun g q v wr => ∃ (done : List T) (y : T) (qa : Option Addr) (ps : List (Option Addr)), q = .pointer qa ∧ Tr w.heap.size wr y qa ∧ g = y.spine.length ∧ Hid (x.spine = done ++ y.spine) ∧ wr.ownsRow w.heap.size 71 1 v done.length (ps.map .pointer) ∧ PTrs w.heap.size wr done ps ∧ Below w.heap.size w wr)
  case atStart => exact ⟨[], x, p, [], rfl, h.below (laid_below _ _), rfl, rfl, World.ownsRow_made _ #[] 0 (Nat.le_refl _) (by simp [maxLen]) rfl, ⟨rfl, by simp⟩, laid_below _ _⟩
  case round =>
    obtain ⟨done, y, qa, ps, rfl, ht, rfl, HR, hown, hpt, hB⟩ := hrel
    have hdone : 2 * done.length + 1 ≤ 2000 := by have h1 := HSP.out; have h2 := HR.out; rw [h2] at h1; simp at h1; omega
    obtain ⟨ld, hld⟩ : ∃ ld, ld = done.length := ⟨_, rfl⟩
    rw [← hld] at hown hdone
    have HLD := Lib.hid hld; clear hld
    obtain ⟨A1, c1, rfl⟩ := own_form hown
    cases y with
    | nil =>
      have hq : qa = none := ht
      subst hq
      have HPT := Lib.hid hpt; clear hpt
      go_wp2
      go_ret
      have e : x.spine = done := by have := HR.out; simpa [T.spine] using this
      rw [e]
      exact ⟨_, ps, rfl, by rw [← HLD.out]; exact hown, HPT.out, hB⟩
    | pair a d =>
      obtain ⟨g, pa, pb, rfl, hg, hh, hta, htb⟩ := ht
      have hc0 : wr.cell? ⟨g, 0, none⟩ = some (.pointer pa) := by rw [cell_of_heap hh]; rfl
      have HH := Lib.hid hh; clear hh
      have HPT := Lib.hid hpt; clear hpt
      go_wp2_with (first | (at_builtin; refine wpList_appg rfl _ _ _ rfl Try.underlying69 infoTreeP' rfl (by omega) w.heap.size wr hown hB.size rfl 1 #[.pointer pa] rfl (laid_below _ _) (heap_alloc_new _ _) rfl (by simp [Value.oneCell']) (by omega) (by unfold maxLen; omega) (by omega) ?_; intro g2 cap w2 hown2 hg2; have hb2 := (Below.refl w.heap.size wr).grown hg2 hB.size (fun j hj => (hown.lt j hj).1); have hB2 := hB.trans hb2; have hc1 : w2.cell? ⟨g, 1, none⟩ = some (.pointer pb) := (by rw [cell_of_heap ((hb2.block g hg).trans HH.out)]; rfl); clear hown hg2 hc0))
      go_roundg (d.spine.length)
      case measure => simp [T.spine]
      case rel =>
        refine ⟨done ++ [a], d, pb, ps ++ [pa], rfl, htb.below hb2, rfl, by unfold Hid; rw [HR.out]; simp [T.spine], ?_, (HPT.out.below hb2).snoc (hta.below hb2), hB2⟩
        rw [List.length_append, ← HLD.out, List.map_append]
        exact hown2

theorem treeNotNil_any (x : T) (p : Option Addr) (B : Nat) (w : World) (h : Tr B w x p) :
    Calls Try.prog 60 #[.pointer p] w fun e w' => e = .returned (.bool (!x.isNil)) ∧ w = w' := by
  cases x with
  | nil =>
    have hp : p = none := h
    subst hp
    go_enter Try.func60, Try.ntmps60
    go_wp2
    go_ret
    exact ⟨rfl, rfl⟩
  | pair a b =>
    obtain ⟨g, pa, pb, rfl, _, _, _, _⟩ := h
    go_enter Try.func60, Try.ntmps60
    go_wp2
    go_ret
    exact ⟨rfl, rfl⟩
theorem treeNotNil_is (x : T) (p : Option Addr) (B : Nat) (v : Bool) (hv : x.isNil = v) (w : World) (h : Tr B w x p) :
    Calls Try.prog 60 #[.pointer p] w fun e w' => e = .returned (.bool (!v)) ∧ w = w' := by
  subst hv; exact treeNotNil_any x p B w h

set_option maxRecDepth 100000 in
theorem indexNotNil_any (B m c : Nat) (A : Option Addr) (xs : List T) (ps : List (Option Addr)) (w : World) (ha : Arg w A m (ps.map .pointer)) (hp : PTrs B w xs ps) (hm : xs.length = m) (hl : m ≤ 1048576) :
    Calls Try.prog 107 #[.slice A m c, .func (.func 60) #[] #[]] w fun e w' =>
      (∃ z : Int, e = .returned (.int .i64 z) ∧ (decide (0 ≤ z) = !(xs.all T.isNil))) ∧ w = w' := by
  have HM := Lib.hid hm
  clear hm
  go_enter Try.func107, Try.ntmps107
  go_wp2_with fail
  go_loop [8] (fun i => ∃ k : Nat, k ≤ m ∧ i = .int .i64 k ∧ Hid (∀ j t, j < k → xs[j]? = some t → t.isNil = true)) (fun i => m - (intOf i).toNat)
  case atStart => exact ⟨0, Nat.zero_le _, rfl, by intro j t hj; omega⟩
  case round =>
    obtain ⟨k, hk, rfl, HR⟩ := hrel
    by_cases hlt : k < m
    · obtain ⟨b, off, rfl, hs⟩ := ha.sl hlt
      obtain ⟨x, HX⟩ := hget HM hlt
      obtain ⟨q, hq⟩ : ∃ q, ps[k]? = some q := ⟨_, List.getElem?_eq_getElem (by have := hp.1; have := HM.out; omega)⟩
      have ht := hp.2 k x q HX.out hq
      have hca := hs.at (j := k) (u := .pointer q) (by rw [List.getElem?_map, hq]; rfl)
      clear hq
      rcases Bool.eq_false_or_eq_true x.isNil with hb | hb
      · have HB := Lib.hid hb; clear hb
        go_wp2_with (go_at_call 60; refine (treeNotNil_is x q B true HB.out _ ht).mono ?_; rintro e w' ⟨rfl, rfl⟩)
        go_round
        case rel => exact ⟨k + 1, by omega, by go_num, by
          intro j t' hj ht'
          by_cases ej : j = k
          · subst ej
            have h2 := HX.out
            rw [ht'] at h2; injection h2 with h2; subst h2; exact HB.out
          · exact HR.out j t' (by omega) ht'⟩
        case measure => simp [intOf]; omega
      · have HB := Lib.hid hb; clear hb
        go_wp2_with (go_at_call 60; refine (treeNotNil_is x q B false HB.out _ ht).mono ?_; rintro e w' ⟨rfl, rfl⟩)
        go_ret
        refine ⟨⟨_, rfl, ?_⟩, rfl⟩
        have hf : xs.all T.isNil = false := by
          rw [Bool.eq_false_iff]; intro hall
          have := List.all_eq_true.1 hall x (List.mem_of_getElem? HX.out)
          rw [HB.out] at this; cases this
        rw [hf]; simp
    · go_wp2_with fail
      go_ret
      refine ⟨⟨_, rfl, ?_⟩, rfl⟩
      have hf : xs.all T.isNil = true := by
        rw [List.all_eq_true]
        intro t ht
        obtain ⟨j, hj⟩ := List.getElem?_of_mem ht
        exact HR.out j t (by have := HM.out; have := (List.getElem?_eq_some_iff.1 hj).1; omega) hj
      rw [hf]; rfl

theorem containsNotNil_is (B m c : Nat) (A : Option Addr) (xs : List T) (ps : List (Option Addr)) (r : Bool) (hr : xs.all T.isNil = r) (w : World) (ha : Arg w A m (ps.map .pointer)) (hp : PTrs B w xs ps) (hm : xs.length = m) (hl : m ≤ 1048576) :
    Calls Try.prog 59 #[.slice A m c, .func (.func 60) #[] #[]] w fun e w' => e = .returned (.bool (!r)) ∧ w = w' := by
  have HR := Lib.hid hr; have HM := Lib.hid hm
  clear hr hm
  go_enter Try.func59, Try.ntmps59
  go_wp2_with fail
  refine (indexNotNil_any B m c A xs ps w ha hp HM.out hl).mono ?_
  rintro e w' ⟨⟨z, rfl, hz⟩, rfl⟩
  rw [HR.out] at hz
  go_wp2_with fail
  go_ret
  exact ⟨ret_bool (by first | exact hz | simpa using hz), rfl⟩

theorem sizeTrees_any (A : Option Addr) (n c : Nat) (w : World) : Calls Try.prog 61 #[.slice A n c] w fun e w' => e = .returned (.int .i64 n) ∧ w = w' := by
  go_enter Try.func61, Try.ntmps61
  go_wp2
  go_ret
  exact ⟨rfl, rfl⟩

set_option maxRecDepth 100000 in
theorem implNumberOfTree_any (b off n c : Nat) (t : List Bool) (w : World) (hs : Sl w b off (t.map .bool)) (hl : t.length = n) (hn : n ≤ 1048576) (hc : n ≤ c) :
    Calls Try.prog 14 #[.slice (some ⟨b, off, none⟩) n c] w fun e w' => e = .returned (.tuple #[.int .i64 (numberOfTree t).1, .int .i64 (numberOfTree t).2]) ∧ Below w.heap.size w w' := by
  have HL := Lib.hid hl; clear hl hc
  rcases Bool.eq_false_or_eq_true (isTreeB t) with h | h
  rotate_left
  · have H := Lib.hid h; clear h
    have HE : Hid (numberOfTree t = (0, 1)) := by unfold Hid numberOfTree; rw [H.out]; rfl
    go_enter Try.func14, Try.ntmps14
    go_wp2_with fail
    refine (isTree_is b off n c t false H.out _ hs HL.out (by omega)).mono ?_
    rintro e w' ⟨rfl, rfl⟩
    go_wp2_with fail
    go_ret2
    rw [HE.out]
    exact ⟨rfl, Below.refl _ _⟩
  obtain ⟨h1, x, hx⟩ := (isTree_iff t).1 h
  have H := Lib.hid h; clear h
  subst hx
  have hnn : x.nodes ≤ 2000 := by rw [← T.length_enc]; exact h1
  have HN : Hid (x.nodes = n) := by have := HL.out; rw [T.length_enc] at this; exact this
  clear h1
  have HM : Hid (numberOfTree x.enc = numOf x) := numberOf_enc x hnn
  have hsp := (spine_le x).1
  obtain ⟨ls, hls⟩ : ∃ ls, ls = x.spine.length := ⟨_, rfl⟩
  have hls2 : ls ≤ 1000 := by omega
  have HLS : Hid (x.spine.length = ls) := hls.symm
  clear hls hsp
  by_cases h100 : ls ≤ 100
  · have h1 : ¬ (100 : Int) < (ls : Int) := by omega
    rcases Bool.eq_false_or_eq_true (x.spine.all T.isNil) with hb | hb
    · have HQ : Hid (numOf x = ((ls : Int), 0)) := by rw [← HLS.out]; exact numOf_ok (by rw [HLS.out]; exact h100) hb
      have HB := Lib.hid hb; clear hb
      go_enter Try.func14, Try.ntmps14
      go_wp2_with fail
      refine (isTree_is b off n c x.enc true H.out _ hs HL.out (by omega)).mono ?_
      rintro e w' ⟨rfl, rfl⟩
      go_wp2_with fail
      refine (treeOf_any b off n c x _ hs HN.out (by omega)).mono ?_
      rintro e w1 ⟨p, rfl, ht, hB⟩
      go_wp2_with fail
      refine (listOfTree_any x p w1 ht hnn).mono ?_
      rintro e w2 ⟨v2, ps, rfl, hown2, hpt, hb2⟩
      have hB2 := below_step hB hb2
      rw [HLS.out] at hown2
      obtain ⟨A2, c2, rfl⟩ := own_form hown2
      go_wp2_with fail
      refine (containsNotNil_is _ ls c2 A2 x.spine ps true HB.out _ (arg_of_own hown2) hpt HLS.out (by omega)).mono ?_
      rintro e w3 ⟨rfl, rfl⟩
      go_wp2_with fail
      refine (sizeTrees_any _ _ _ _).mono ?_
      rintro e w3 ⟨rfl, rfl⟩
      go_wp2_with fail
      go_ret2
      rw [HM.out, HQ.out]
      exact ⟨rfl, hB2⟩
    · have HQ : Hid (numOf x = (0, 9)) := numOf_bad hb
      have HB := Lib.hid hb; clear hb
      go_enter Try.func14, Try.ntmps14
      go_wp2_with fail
      refine (isTree_is b off n c x.enc true H.out _ hs HL.out (by omega)).mono ?_
      rintro e w' ⟨rfl, rfl⟩
      go_wp2_with fail
      refine (treeOf_any b off n c x _ hs HN.out (by omega)).mono ?_
      rintro e w1 ⟨p, rfl, ht, hB⟩
      go_wp2_with fail
      refine (listOfTree_any x p w1 ht hnn).mono ?_
      rintro e w2 ⟨v2, ps, rfl, hown2, hpt, hb2⟩
      have hB2 := below_step hB hb2
      rw [HLS.out] at hown2
      obtain ⟨A2, c2, rfl⟩ := own_form hown2
      go_wp2_with fail
      refine (containsNotNil_is _ ls c2 A2 x.spine ps false HB.out _ (arg_of_own hown2) hpt HLS.out (by omega)).mono ?_
      rintro e w3 ⟨rfl, rfl⟩
      go_wp2_with fail
      go_ret2
      rw [HM.out, HQ.out]
      exact ⟨rfl, hB2⟩
  · have h1 : (100 : Int) < (ls : Int) := by omega
    have HQ : Hid (numOf x = (0, 9)) := numOf_long (by rw [HLS.out]; omega)
    go_enter Try.func14, Try.ntmps14
    go_wp2_with fail
    refine (isTree_is b off n c x.enc true H.out _ hs HL.out (by omega)).mono ?_
    rintro e w' ⟨rfl, rfl⟩
    go_wp2_with fail
    refine (treeOf_any b off n c x _ hs HN.out (by omega)).mono ?_
    rintro e w1 ⟨p, rfl, ht, hB⟩
    go_wp2_with fail
    refine (listOfTree_any x p w1 ht hnn).mono ?_
    rintro e w2 ⟨v2, ps, rfl, hown2, hpt, hb2⟩
    have hB2 := below_step hB hb2
    rw [HLS.out] at hown2
    obtain ⟨A2, c2, rfl⟩ := own_form hown2
    go_wp2_with fail
    go_ret2
    rw [HM.out, HQ.out]
    exact ⟨rfl, hB2⟩
end Go.Proofs.Ytffcggagjeoagaa
