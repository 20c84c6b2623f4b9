/- SettledTexts, the reference's and the program's. -/
import Derived.Test.YteocnkiagifmfaaStrLay
import Derived.Test.YteocnkiagifmfaaMarkStr2
import Derived.Test.YteocnkiagifmfaaSortRow
import Derived.Test.YteocnkiagifmfaaWordsN
import Derived.Test.YteocnkiagifmfaaHeld
namespace Go.Proofs.Yteocnkiagifmfaa
open Go.RowKit Go.Sort
set_option linter.all false

def baL (x : ByteArray) : List UInt8 := x.data.toList
def toBA (l : List UInt8) : ByteArray := ⟨l.toArray⟩
theorem toBA_baL (x : ByteArray) : toBA (baL x) = x := by unfold toBA baL; cases x; simp
theorem baL_toBA (l : List UInt8) : baL (toBA l) = l := by unfold toBA baL; simp
theorem encStr_eq (l : List UInt8) : encStr l = .string (toBA l) := rfl
theorem map_baL (xs : List ByteArray) : (xs.map baL).map encStr = xs.map Value.string := by
  rw [List.map_map]
  apply List.map_congr_left
  intro x _
  show encStr (baL x) = .string x
  rw [encStr_eq, toBA_baL]
/-- The texts that are not empty. -/
def fullOf (zs : List (List UInt8)) : List (List UInt8) := zs.filter fun l => !decide (l = [])
def settleL (zs : List (List UInt8)) : List (List UInt8) := Lib.compact (fullOf zs)
def settled (xs : List ByteArray) : List ByteArray := (settleL (xs.map baL)).map toBA
theorem settled_cells (xs : List ByteArray) : (settled xs).map Value.string = (settleL (xs.map baL)).map encStr := by
  unfold settled; rw [List.map_map]; rfl
theorem fullOf_len (zs : List (List UInt8)) : (fullOf zs).length ≤ zs.length := List.length_filter_le _ _
theorem settleL_len (zs : List (List UInt8)) : (settleL zs).length ≤ zs.length := Nat.le_trans (Lib.compact_length_le _) (fullOf_len zs)
theorem bndSettledTexts0 (xs : List ByteArray) (h : xs.length ≤ 1048576) : (settled xs).length ≤ 1048576 := by
  unfold settled; rw [List.length_map]
  have := settleL_len (xs.map baL)
  rw [List.length_map] at this
  omega

section
variable {α : Type} [Inhabited α] [DecidableEq α]
theorem upTo_cong (d e : Array α) (m : Nat) (h : ∀ j, j < m → d[j]! = e[j]!) : Lib.compactUpTo d m = Lib.compactUpTo e m := by
  induction m with
  | zero => rfl
  | succ m ih =>
    rw [Lib.compactUpTo_succ, Lib.compactUpTo_succ, ih (fun j hj => h j (by omega))]
    have h1 := h m (by omega)
    have hk : Lib.keeps d m = Lib.keeps e m := by
      unfold Lib.keeps
      rw [decide_eq_decide]
      by_cases h0 : m = 0
      · simp [h0]
      · rw [h1, h (m - 1) (by omega)]
    rw [hk, h1]
theorem compact_snoc (ys : List α) (x : α) : Lib.compact (ys ++ [x]) = Lib.compact ys ++ (if ys.getLast? = some x then [] else [x]) := by
  unfold Lib.compact
  rw [List.length_append, List.length_singleton, Lib.compactUpTo_succ]
  have hlow : ∀ j, j < ys.length → (ys ++ [x]).toArray[j]! = ys.toArray[j]! := by
    intro j hj
    simp [List.getElem!_eq_getElem?_getD, List.getElem?_append_left hj]
  rw [upTo_cong _ ys.toArray _ hlow]
  congr 1
  have hx : (ys ++ [x]).toArray[ys.length]! = x := by simp [List.getElem!_eq_getElem?_getD]
  rw [hx]
  rcases Nat.eq_zero_or_pos ys.length with h0 | h0
  · have : ys = [] := List.eq_nil_of_length_eq_zero h0
    subst this
    simp [Lib.keeps]
  · have hl : ys.getLast? = some (ys.toArray[ys.length - 1]!) := by
      rw [List.getLast?_eq_getElem?]
      simp [List.getElem!_eq_getElem?_getD, List.getElem?_eq_getElem (show ys.length - 1 < ys.length by omega)]
    by_cases he : ys.toArray[ys.length - 1]! = x
    · rw [hl, he, if_pos rfl, Lib.keeps_neg h0 (by rw [hx, hlow _ (by omega), he])]
      rfl
    · have hne : ¬ (some (ys.toArray[ys.length - 1]!) = some x) := fun h => he (Option.some.inj h)
      rw [hl, if_neg hne, Lib.keeps_pos (by rw [hx, hlow _ (by omega)]; exact fun h => he h.symm)]
      rfl
theorem compact_last : ∀ (n : Nat) (ys : List α), ys.length = n → (Lib.compact ys).getLast? = ys.getLast? := by
  intro n
  induction n with
  | zero => intro ys h; rw [List.eq_nil_of_length_eq_zero h]; rfl
  | succ n ih =>
    intro ys h
    rcases List.eq_nil_or_concat ys with rfl | ⟨l, x, rfl⟩
    · rfl
    · simp only [List.concat_eq_append, List.length_append, List.length_singleton] at h ⊢
      rw [compact_snoc]
      have h1 := ih l (by omega)
      by_cases hx : l.getLast? = some x
      · rw [if_pos hx, List.append_nil, h1, hx]
        simp
      · rw [if_neg hx]
        simp
end
theorem fullOf_snoc (zs : List (List UInt8)) (l : List UInt8) : fullOf (zs ++ [l]) = fullOf zs ++ (if l = [] then [] else [l]) := by
  unfold fullOf
  rw [List.filter_append]
  by_cases h : l = []
  · subst h; simp
  · simp [h]
theorem settle_empty {zs : List (List UInt8)} {k : Nat} (h : zs[k]? = some []) : settleL (zs.take (k + 1)) = settleL (zs.take k) := by
  unfold settleL
  rw [List.take_add_one, h]
  show Lib.compact (fullOf (zs.take k ++ [[]])) = _
  rw [fullOf_snoc, if_pos rfl, List.append_nil]
theorem settle_last (zs : List (List UInt8)) : (settleL zs).getLast? = (fullOf zs).getLast? := compact_last _ _ rfl
theorem settle_same {zs : List (List UInt8)} {k : Nat} {l : List UInt8} (h : zs[k]? = some l) (hl : (settleL (zs.take k)).getLast? = some l) : settleL (zs.take (k + 1)) = settleL (zs.take k) := by
  by_cases h0 : l = []
  · subst h0; exact settle_empty h
  · rw [settle_last] at hl
    unfold settleL
    rw [List.take_add_one, h]
    show Lib.compact (fullOf (zs.take k ++ [l])) = _
    rw [fullOf_snoc, if_neg h0, compact_snoc, if_pos hl, List.append_nil]
theorem settle_new {zs : List (List UInt8)} {k : Nat} {l : List UInt8} (h : zs[k]? = some l) (h0 : l ≠ []) (hl : (settleL (zs.take k)).getLast? ≠ some l) : settleL (zs.take (k + 1)) = settleL (zs.take k) ++ [l] := by
  rw [settle_last] at hl
  unfold settleL
  rw [List.take_add_one, h]
  show Lib.compact (fullOf (zs.take k ++ [l])) = _
  rw [fullOf_snoc, if_neg h0, compact_snoc, if_neg hl]

theorem toList_empty : ByteArray.toList ⟨#[]⟩ = [] := by first | rfl | decide | simp
theorem notBlank {x : ByteArray} (h : x ≠ ⟨#[]⟩) : x.toList.isEmpty = false := by
  cases hx : x.toList.isEmpty with
  | false => rfl
  | true => exact absurd (ba_ext (by rw [List.isEmpty_iff.1 hx, toList_empty])) h
theorem baL_toList (x : ByteArray) : x = ⟨#[]⟩ ↔ baL x = [] := by
  constructor
  · rintro rfl; rfl
  · intro h
    have := toBA_baL x
    rw [h] at this
    exact this.symm

set_option maxRecDepth 100000 in
set_option maxHeartbeats 1000000 in
theorem specSettledTexts_any (b off n c : Nat) (xs : List ByteArray) (w : World) (hs : Sl w b off (xs.map Value.string)) (hl : xs.length = n) (hn : n ≤ 1048576) (hx : ∀ x ∈ xs, x.size ≤ 1048576) :
    Calls Try.prog 15 #[.slice (some ⟨b, off, none⟩) n c] w fun e w' => ∃ v, e = .returned v ∧
      w'.ownsRow w.heap.size 9 1 v (settled xs).length ((settled xs).map Value.string) ∧ Below w.heap.size w w' := by
  obtain ⟨zs, hz⟩ : ∃ zs, zs = xs.map baL := ⟨_, rfl⟩
  have HE : Hid ((settled xs).map Value.string = (settleL zs).map encStr) := by unfold Hid; rw [settled_cells, hz]
  have HEL : Hid ((settled xs).length = (settleL zs).length) := by unfold Hid; have := congrArg List.length HE.out; simpa using this
  have HZ : Hid (zs.length = n) := by unfold Hid; rw [hz, List.length_map]; exact hl
  have HXZ : Hid (∀ (k : Nat) x, xs[k]? = some x → zs[k]? = some (baL x)) := by unfold Hid; intro k x h; rw [hz, List.getElem?_map, h]; rfl
  have HL := Lib.hid hl
  clear hl hx hz
  rw [HEL.out, HE.out]
  have hown0 : (w.alloc (.cells #[] 9)).ownsRow w.heap.size 9 1 (.slice (some ⟨w.heap.size, 0, none⟩) 0 0) 0 [] := own_empty w 9 1
  have hB0 := laid_below w (.cells #[] 9)
  go_enter Try.func15, Try.ntmps15
  go_wp2_with fail
  go_loopw [3, 4] (fun vv i wr => ∃ (k m : Nat), k ≤ n ∧ m ≤ k ∧ i = .int .i64 k ∧ wr.ownsRow w.heap.size 9 1 vv m ((settleL (zs.take k)).map encStr) ∧ Below w.heap.size w wr ∧ Hid ((settleL (zs.take k)).length = m)) (fun _ i _ => n - (intOf i).toNat)
  case atStart => exact ⟨0, 0, Nat.zero_le _, Nat.le_refl _, rfl, by simpa [settleL, fullOf, Lib.compact, Lib.compactUpTo] using hown0, hB0, rfl⟩
  case round =>
    obtain ⟨k, m, hk, hmk, rfl, hown, hB, HM⟩ := hrel
    clear hown0 hB0
    by_cases hlt : k < n
    rotate_left
    · have HF : Hid (zs.take k = zs) := List.take_of_length_le (by have := HZ.out; omega)
      go_wp2_with fail
      go_ret
      rw [HF.out] at hown HM
      rw [HM.out]
      exact ⟨_, rfl, hown, hB⟩
    obtain ⟨x, HX, hx⟩ := map_at Value.string xs (k := k) (by have := HL.out; omega)
    have hca := (hs.below' hB).at hx
    have HZX := Lib.hid (HXZ.out k x HX.out)
    clear hx
    obtain ⟨A, d, rfl⟩ := own_form hown
    by_cases h0 : x = ⟨#[]⟩
    · have HN : Hid (settleL (zs.take (k + 1)) = settleL (zs.take k)) := settle_empty (by rw [HZX.out, h0]; rfl)
      subst h0
      go_wp2_with fail
      go_quiet (fail)
      go_wp2_with fail
      go_roundw
      case rel => exact ⟨k + 1, m, by omega, by omega, by go_num, by rw [HN.out]; exact own_below' hown (quiet_below rfl), below_drewN hB _, by rw [HN.out]; exact HM⟩
      case measure => simp [intOf]; omega
    have z1 : (x.toList == ByteArray.toList ⟨#[]⟩) = false := by simpa using fun h => h0 (ba_ext h)
    have z5 := notBlank h0
    clear z1
    have HNE : Hid (baL x ≠ []) := fun h => h0 ((baL_toList x).2 h)
    clear h0
    rcases Nat.eq_zero_or_pos m with hm | hm
    · subst hm
      have HN : Hid (settleL (zs.take (k + 1)) = settleL (zs.take k) ++ [baL x]) := settle_new HZX.out HNE.out (by rw [List.eq_nil_of_length_eq_zero HM.out]; simp)
      go_wp2_with fail
      go_quiet (fail)
      have hownq : (wr.drewN nq).ownsRow w.heap.size 9 1 (.slice A 0 d) 0 ((settleL (zs.take k)).map encStr) := own_below' hown (quiet_below rfl)
      have hBq : Below w.heap.size w (wr.drewN nq) := below_drewN hB nq
      have hcq : (wr.drewN nq).cell? ⟨b, off + k, none⟩ = some (.string x) := hca
      clear hown hB hca
      generalize wr.drewN nq = wq at *
      go_wp2_with (at_builtin; refine wpList_app rfl _ _ _ rfl Try.underlying22 infoStringS rfl (by omega) w wq hownq hBq rfl 1 #[.string x] rfl (laid_below _ _) (heap_alloc_new _ _) rfl (by simp [Value.oneCell']) (by omega) (by unfold maxLen; omega) (by omega) ?_; intro g2 cap w1 hown1 hB1; clear hownq hBq)
      go_roundw
      case rel =>
        refine ⟨k + 1, 1, by omega, by omega, by go_num, ?_, hB1, ?_⟩
        · rw [HN.out, List.map_append]
          show w1.ownsRow w.heap.size 9 1 _ 1 (_ ++ [encStr (baL x)])
          rw [encStr_eq, toBA_baL]
          exact hown1
        · rw [HN.out, List.length_append, HM.out]; rfl
      case measure => simp [intOf]; omega
    obtain ⟨m', rfl⟩ : ∃ q, m = q + 1 := ⟨m - 1, by omega⟩
    obtain ⟨y, hy⟩ : ∃ y, (settleL (zs.take k))[m']? = some y := ⟨_, List.getElem?_eq_getElem (by have := HM.out; omega)⟩
    have HLAST : Hid ((settleL (zs.take k)).getLast? = some y) := by unfold Hid; rw [List.getLast?_eq_getElem?, HM.out]; exact hy
    obtain ⟨g, rfl, _, _⟩ := own_addr0 hown (Nat.succ_pos m')
    have hcy : wr.cell? ⟨g, m', none⟩ = some (.string (toBA y)) := by
      have := (sl_of_own hown).at (j := m') (u := encStr y) (by rw [List.getElem?_map, hy]; rfl)
      rw [Nat.zero_add] at this
      exact this
    have hw1 : IntKind.i64.wrap (((m' + 1 : Nat) : Int) - 1) = (m' : Int) := by rw [IntWalk.i64_in _ (by omega)]; omega
    have hw2 : IntKind.i64.wrap ((m' : Int) + 1 - 1) = (m' : Int) := by rw [IntWalk.i64_in _ (by omega)]; omega
    have hw6 : IntKind.i64.wrap (m' : Int) = (m' : Int) := IntWalk.i64_in _ (by omega)
    have hw7 : ((m' : Int) + 1 == 0) = false := by simp; omega
    have hw3 : (0 : Int) ≤ (m' : Int) := by omega
    have hw4 : (m' : Int) < ((m' + 1 : Nat) : Int) := by omega
    have hw5 : (m' : Int) < (m' : Int) + 1 := by omega
    obtain ⟨s, hs9⟩ : ∃ s, s = toBA y := ⟨_, rfl⟩
    rw [← hs9] at hcy
    have HS9 := Lib.hid hs9
    clear hs9 hy
    by_cases hxy : s = x
    · subst hxy
      have e1 : (s.toList == s.toList) = true := by simp
      have e2 : (s.toList != s.toList) = false := by simp
      have HN : Hid (settleL (zs.take (k + 1)) = settleL (zs.take k)) := settle_same HZX.out (by rw [HLAST.out, HS9.out, baL_toBA])
      go_wp2_with fail
      go_quiet (fail)
      go_wp2_with fail
      go_roundw
      case rel => exact ⟨k + 1, m' + 1, by omega, by omega, by go_num, by rw [HN.out]; exact own_below' hown (quiet_below rfl), below_drewN hB _, by rw [HN.out]; exact HM⟩
      case measure => simp [intOf]; omega
    · have e1 : (s.toList == x.toList) = false := by simpa using fun h => hxy (ba_ext h)
      have e2 : (s.toList != x.toList) = true := by rw [bne, e1]; rfl
      have HN : Hid (settleL (zs.take (k + 1)) = settleL (zs.take k) ++ [baL x]) := settle_new HZX.out HNE.out (by rw [HLAST.out]; intro h; injection h with h; exact hxy (by rw [HS9.out, h, toBA_baL]))
      clear hxy
      go_wp2_with fail
      go_quiet (fail)
      have hownq : (wr.drewN nq).ownsRow w.heap.size 9 1 (.slice (some ⟨g, 0, none⟩) (m' + 1) d) (m' + 1) ((settleL (zs.take k)).map encStr) := own_below' hown (quiet_below rfl)
      have hBq : Below w.heap.size w (wr.drewN nq) := below_drewN hB nq
      have hcq : (wr.drewN nq).cell? ⟨b, off + k, none⟩ = some (.string x) := hca
      clear hown hB hca hcy
      generalize wr.drewN nq = wq at *
      go_wp2_with (at_builtin; refine wpList_app rfl _ _ _ rfl Try.underlying22 infoStringS rfl (by omega) w wq hownq hBq rfl 1 #[.string x] rfl (laid_below _ _) (heap_alloc_new _ _) rfl (by simp [Value.oneCell']) (by omega) (by unfold maxLen; omega) (by omega) ?_; intro g2 cap w1 hown1 hB1; clear hownq hBq)
      go_roundw
      case rel =>
        refine ⟨k + 1, m' + 1 + 1, by omega, by omega, by go_num, ?_, hB1, ?_⟩
        · rw [HN.out, List.map_append]
          show w1.ownsRow w.heap.size 9 1 _ (m' + 1 + 1) (_ ++ [encStr (baL x)])
          rw [encStr_eq, toBA_baL]
          exact hown1
        · rw [HN.out, List.length_append, HM.out]; rfl
      case measure => simp [intOf]; omega

/-! The program's. -/
theorem holds_of_ownS {w : World} {base : Nat} {e : TypeId} {g n cap : Nat} {zs : List (List UInt8)} (h : w.ownsRow base e 1 (.slice (some ⟨g, 0, none⟩) n cap) n (zs.map encStr)) : Holds encStr w g 0 zs.toArray := by
  intro j hj
  have hj' : j < zs.length := by simpa using hj
  have hn : zs.length = n := by have := h.1; simpa using this
  refine ⟨?_, by have := h.frozenAt (0 + j); simpa using this⟩
  have := h.cellAt j (by omega)
  rw [Nat.zero_add, this]
  simp [hj']
theorem own_putRowS {w : World} {base : Nat} {e : TypeId} {g n cap : Nat} {xs : List Value} (h : w.ownsRow base e 1 (.slice (some ⟨g, 0, none⟩) n cap) n xs) (d : List (List UInt8)) (hd : d.length = n) (q : Nat) :
    (putRow encStr (Sort.ahead w q) g 0 d.toArray).ownsRow base e 1 (.slice (some ⟨g, 0, none⟩) n cap) n (d.map encStr) ∧ w.grownBy (putRow encStr (Sort.ahead w q) g 0 d.toArray) (some g) := by
  rcases h.2 with ⟨h0, _⟩ | ⟨g', cap', cur, hv, hb, hg, hn, hm, hs, hx⟩
  · cases h0
  · injection hv with e1 e2 e3
    injection e1 with e1
    injection e1 with e1
    subst e1 e3
    refine ⟨⟨by simp [hd], .inr ⟨g, cap, putCells encStr 0 d.toArray cur, rfl, hb, ?_, hn, hm, by simp [putCells, hs], ?_⟩⟩, ?_⟩
    · show (w.heap.modify g (onCells (putCells encStr 0 d.toArray)))[g]? = _
      rw [Array.getElem?_modify, if_pos rfl, hg]
      rfl
    · apply List.ext_getElem?
      intro j
      by_cases hj : j < n
      · rw [List.getElem?_take, if_pos (by omega)]
        have hc : j < cur.size := by omega
        simp only [putCells, Array.getElem?_toList, Array.getElem?_mapIdx]
        rw [Array.getElem?_eq_getElem hc, Option.map_some, if_pos (by simp; omega)]
        simp [show j < d.length by omega]
      · rw [List.getElem?_eq_none (by simp; omega), List.getElem?_eq_none (by rw [List.length_map]; omega)]
    · refine ⟨rfl, rfl, rfl, by simp, fun k hk hne => ?_⟩
      show (w.heap.modify g _)[k]? = _
      rw [Array.getElem?_modify, if_neg (by intro e; exact hne (by rw [e]))]

theorem isBlank_is (l : List UInt8) (w : World) : Calls Try.prog 82 #[encStr l] w fun e w' => e = .returned (.bool (decide (l = []))) ∧ w = w' := by
  show Calls Try.prog _ #[.string (toBA l)] _ _
  obtain ⟨x, hx⟩ : ∃ x, x = toBA l := ⟨_, rfl⟩
  rw [← hx]
  by_cases h0 : l = []
  · subst h0
    have hx2 : x = ⟨#[]⟩ := hx
    subst hx2
    go_enter Try.func82, Try.ntmps82
    go_wp2_with fail
    go_ret
    exact ⟨rfl, rfl⟩
  · have h1 : x ≠ ⟨#[]⟩ := by rw [hx]; intro h; have := (baL_toList _).1 h; rw [baL_toBA] at this; exact h0 this
    have z5 := notBlank h1
    have HF : Hid (decide (l = []) = false) := decide_eq_false h0
    clear h0 h1 hx
    go_enter Try.func82, Try.ntmps82
    go_wp2_with fail
    go_ret
    exact ⟨ret_bool (by rw [HF.out]), rfl⟩

theorem one_strs (zs : List (List UInt8)) : ∀ u ∈ zs.map encStr, u.oneCell' = true := by
  intro u hu; obtain ⟨x, _, rfl⟩ := List.mem_map.1 hu; rfl

set_option maxRecDepth 100000 in
theorem cloneStr_any (b off n c : Nat) (zs : List (List UInt8)) (w : World) (hs : Sl w b off (zs.map encStr)) (hl : zs.length = n) (hn : n ≤ 1048576) :
    Calls Try.prog 81 #[.slice (some ⟨b, off, none⟩) n c] w fun e w' => ∃ g d, e = .returned (.slice (some ⟨g, 0, none⟩) n d) ∧ w'.ownsRow w.heap.size 9 1 (.slice (some ⟨g, 0, none⟩) n d) n (zs.map encStr) ∧ Below w.heap.size w w' ∧ n ≤ d := by
  have hown0 : (w.alloc (.cells #[] 9)).ownsRow w.heap.size 9 1 (.slice (some ⟨w.heap.size, 0, none⟩) 0 0) 0 [] := own_empty w 9 1
  have hB0 := laid_below w (.cells #[] 9)
  have hsrc1 : Src 1 (w.alloc (.cells #[] 9)) (.slice (some ⟨b, off, none⟩) n c) n (zs.map encStr) := Src.of_sl (hs.below' hB0) (by simp; omega)
  have HO := Lib.hid (one_strs zs)
  clear hs hl
  have hnl := run_nil_some Try.underlying22 ⟨b, off, none⟩ n c
  go_enter Try.func81, Try.ntmps81
  go_wp2_with (at_builtin; refine wpList_appx rfl _ _ _ rfl Try.underlying22 infoStringS rfl (by omega) w.heap.size hown0 hB0.size rfl hsrc1 rfl HO.out (by unfold maxLen; omega) (by omega) ?_; intro v2 w2 hown2 hg2 hnil2; have hB2 := grown_below hB0 hown0 (Nat.le_refl _) hg2; obtain ⟨g2, d2, rfl, hd2⟩ := own_adr hown2 (fun e => by cases (hnil2 e).1); clear hnil2 hown0 hB0 hsrc1 hg2)
  go_ret
  have hown3 : w2.ownsRow w.heap.size 9 1 (.slice (some ⟨g2, 0, none⟩) n d2) n (zs.map encStr) := by simpa using hown2
  exact ⟨g2, d2, by first | rfl | rw [Nat.zero_add], hown3, hB2, by omega⟩

set_option maxRecDepth 100000 in
set_option maxHeartbeats 1000000 in
theorem implSettledTexts_any (b off n c : Nat) (xs : List ByteArray) (w : World) (hs : Sl w b off (xs.map Value.string)) (hl : xs.length = n) (hn : n ≤ 1048576) (hx : ∀ x ∈ xs, x.size ≤ 1048576) :
    Calls Try.prog 17 #[.slice (some ⟨b, off, none⟩) n c] w fun e w' => ∃ v, e = .returned v ∧
      w'.ownsRow w.heap.size 9 1 v (settled xs).length ((settled xs).map Value.string) ∧ Below w.heap.size w w' := by
  obtain ⟨zs, hz⟩ : ∃ zs, zs = xs.map baL := ⟨_, rfl⟩
  have HE : Hid ((settled xs).map Value.string = (settleL zs).map encStr) := by unfold Hid; rw [settled_cells, hz]
  have HEL : Hid ((settled xs).length = (settleL zs).length) := by unfold Hid; have := congrArg List.length HE.out; simpa using this
  have hzl : zs.length = n := by rw [hz, List.length_map]; exact hl
  rw [← map_baL, ← hz] at hs
  rw [HEL.out, HE.out]
  have HZL := Lib.hid hzl
  clear hl hx hz hzl
  go_enter Try.func17, Try.ntmps17
  go_wp2_with fail
  refine (cloneStr_any b off n c zs w hs HZL.out hn).mono ?_
  rintro e w1 ⟨g, d, rfl, hown1, hB1, hnd⟩
  have hH1 := holds_of_ownS hown1
  have hdel := AnyE.slices_DeleteFunc Try.layDeleteS encStr (fun _ => rfl) (fun l => decide (l = [])) 82 #[] (enters_of' Try.func82 (by kernel_rfl) rfl) [] Try.layCompactS.v26
    g 0 d zs.toArray w1 (fun W x _ => (isBlank_is x W).mono fun _ _ ⟨h1, h2⟩ => ⟨h1, 0, h2.symm⟩) (fun q os dk x _ => (isBlank_is x _).mono fun _ _ ⟨h1, h2⟩ => ⟨h1, 0, h2.symm⟩) hH1 (by have := HZL.out; simp; omega) (by have := HZL.out; simp; omega)
  have HF : Hid ((zs.toArray.toList.filter fun x => !decide (x = [])) = fullOf zs) := rfl
  rw [HF.out] at hdel
  have hsz : zs.toArray.size = n := by have := HZL.out; simpa using this
  rw [hsz] at hdel
  have HDEL := Lib.hid hdel
  clear hdel
  go_wp2_with fail
  refine HDEL.out.mono ?_
  rintro e w2 ⟨rfl, q, rfl⟩
  have hfl := fullOf_len zs
  obtain ⟨hown2, hg2⟩ := own_putRowS hown1 (fullOf zs ++ List.replicate (n - (fullOf zs).length) []) (by have := HZL.out; simp; omega) q
  have hB2 := grown_below hB1 hown1 (Nat.le_refl _) hg2
  have hown3 := own_shorter hown2 (m := (fullOf zs).length) (by have := HZL.out; omega)
  rw [← List.map_take, List.take_left] at hown3
  obtain ⟨W2, hW2⟩ : ∃ W2, W2 = putRow encStr (Sort.ahead w1 q) g 0 (fullOf zs ++ List.replicate (n - (fullOf zs).length) []).toArray := ⟨_, rfl⟩
  rw [← hW2] at hown3 hB2 ⊢
  clear hown2 hg2 hW2 hown1 hB1 HDEL hH1
  have hfn : (fullOf zs).length ≤ n := by have := HZL.out; omega
  have hcmp := AnyG.slices_Compact_string Try.layCompactS g 0 d (fullOf zs) W2 (holds_of_ownS hown3) (by omega) (by omega)
  have HCMP := Lib.hid hcmp
  clear hcmp
  go_wp2_with fail
  refine HCMP.out.mono ?_
  rintro e w3 ⟨rfl, q2, rfl⟩
  have hcl := Lib.compact_length_le (fullOf zs)
  obtain ⟨hown4, hg4⟩ := own_putRowS hown3 (Lib.compact (fullOf zs) ++ List.replicate ((fullOf zs).length - (Lib.compact (fullOf zs)).length) []) (by simp; omega) q2
  have hB4 := grown_below hB2 hown3 (Nat.le_refl _) hg4
  have hown5 := own_shorter hown4 (m := (Lib.compact (fullOf zs)).length) hcl
  rw [← List.map_take, List.take_left] at hown5
  go_wp2_with fail
  go_ret
  exact ⟨_, rfl, hown5, hB4⟩
end Go.Proofs.Yteocnkiagifmfaa
