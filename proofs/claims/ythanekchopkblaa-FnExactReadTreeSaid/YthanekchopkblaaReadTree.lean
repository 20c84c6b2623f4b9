/- ReadTree, the reference's and the program's. -/
import Derived.Test.YthanekchopkblaaTextSpec
namespace Go.Proofs.Ythanekchopkblaa
open Go.RowKit
set_option linter.all false

def nodesS (l : List UInt8) : List Bool := l.filterMap fun c => if c.toNat = 40 then some true else if c.toNat = 46 then some false else none
def nodesI (l : List UInt8) : List Bool := (l.filter fun c => c.toNat != 41).map fun c => c.toNat == 40
theorem nodesS_append (a b : List UInt8) : nodesS (a ++ b) = nodesS a ++ nodesS b := by simp [nodesS]
theorem nodesI_append (a b : List UInt8) : nodesI (a ++ b) = nodesI a ++ nodesI b := by simp [nodesI]
theorem nodesS_text (x : T) : nodesS x.text = x.enc := by
  induction x with
  | nil => rfl
  | pair a b ha hb =>
    have h1 : T.text (.pair a b) = [40] ++ a.text ++ b.text ++ [41] := by simp [T.text]
    rw [h1, nodesS_append, nodesS_append, nodesS_append, ha, hb]
    show [true] ++ a.enc ++ b.enc ++ [] = _
    simp [T.enc]
theorem nodesI_text (x : T) : nodesI x.text = x.enc := by
  induction x with
  | nil => rfl
  | pair a b ha hb =>
    have h1 : T.text (.pair a b) = [40] ++ a.text ++ b.text ++ [41] := by simp [T.text]
    rw [h1, nodesI_append, nodesI_append, nodesI_append, ha, hb]
    show [true] ++ a.enc ++ b.enc ++ [] = _
    simp [T.enc]
def readOk (l : List UInt8) (t : List Bool) : Bool := isTreeB t && decide (treeTextOf t = l)
def readTree (l : List UInt8) : List Bool × Bool := if readOk l (nodesS l) then (nodesS l, true) else ([], false)
theorem readOk_tree {l : List UInt8} {t : List Bool} (h : readOk l t = true) : ∃ x : T, t = x.enc ∧ l = x.text ∧ x.nodes ≤ 2000 := by
  unfold readOk at h
  simp only [Bool.and_eq_true, decide_eq_true_eq] at h
  obtain ⟨h1, x, rfl⟩ := (isTree_iff t).1 h.1
  rw [T.length_enc] at h1
  exact ⟨x, rfl, by rw [← h.2, treeTextOf_enc x h1], h1⟩
theorem readOk_text (x : T) (h : x.nodes ≤ 2000) : readOk x.text x.enc = true := by
  unfold readOk
  rw [treeTextOf_enc x h, (isTree_iff _).2 ⟨by rw [T.length_enc]; exact h, x, rfl⟩]
  simp
theorem readOk_same (l : List UInt8) : readOk l (nodesI l) = readOk l (nodesS l) := by
  cases h1 : readOk l (nodesI l) with
  | true =>
    obtain ⟨x, hx, rfl, hn⟩ := readOk_tree h1
    rw [nodesS_text, readOk_text x hn]
  | false =>
    cases h2 : readOk l (nodesS l) with
    | false => rfl
    | true =>
      obtain ⟨x, hx, rfl, hn⟩ := readOk_tree h2
      rw [nodesI_text, readOk_text x hn] at h1
      cases h1
theorem readTree_impl (l : List UInt8) : readTree l = if readOk l (nodesI l) then (nodesI l, true) else ([], false) := by
  unfold readTree
  rw [readOk_same]
  cases h : readOk l (nodesS l) with
  | false => rfl
  | true =>
    obtain ⟨x, hx, rfl, hn⟩ := readOk_tree h
    rw [nodesI_text, nodesS_text]
theorem readTree_long (l : List UInt8) (h : 4000 < l.length) : readTree l = ([], false) := by
  unfold readTree
  cases h2 : readOk l (nodesS l) with
  | false => rfl
  | true =>
    obtain ⟨x, hx, rfl, hn⟩ := readOk_tree h2
    have := (text_le x).1
    omega
theorem readTree_many (l : List UInt8) (k : Nat) (h : 2000 < (nodesS (l.take k)).length) : readTree l = ([], false) := by
  unfold readTree
  have : readOk l (nodesS l) = false := by
    unfold readOk isTreeB
    have h2 : (nodesS l).length = (nodesS (l.take k)).length + (nodesS (l.drop k)).length := by
      rw [← List.length_append, ← nodesS_append, List.take_append_drop]
    rw [decide_eq_false (by omega)]; rfl
  rw [this]; rfl
theorem bndReadTree0 (s : ByteArray) : (readTree s.data.toList).1.length ≤ 1048576 := by
  unfold readTree
  cases h2 : readOk s.data.toList (nodesS s.data.toList) with
  | false => simp
  | true =>
    obtain ⟨x, hx, h3, hn⟩ := readOk_tree h2
    rw [hx]
    simp [T.length_enc]; omega

theorem toList_data (s : ByteArray) : s.toList = s.data.toList := ByteArray.toList_eq s
theorem take_snoc (s : ByteArray) (k : Nat) (h : k < s.size) : s.data.toList.take (k + 1) = s.data.toList.take k ++ [s[k]] := by
  rw [List.take_succ_eq_append_getElem (by simpa using h)]; rfl
theorem nodesS_le (l : List UInt8) : (nodesS l).length ≤ l.length := List.length_filterMap_le _ _
theorem nodesI_le (l : List UInt8) : (nodesI l).length ≤ l.length := by unfold nodesI; rw [List.length_map]; exact List.length_filter_le _ _

set_option maxRecDepth 100000 in
set_option maxHeartbeats 2000000 in
theorem implReadTree_any (s : ByteArray) (w : World) (hsz : s.size ≤ 1048576) :
    Calls Try.prog 47 #[.string s] w fun e w' => ∃ v, e = .returned (.tuple #[v, .bool (readTree s.data.toList).2]) ∧
      w'.ownsRow w.heap.size 4 1 v (readTree s.data.toList).1.length ((readTree s.data.toList).1.map .bool) ∧ Below w.heap.size w w' := by
  by_cases hb : s.size ≤ 4000
  rotate_left
  · have HE := Lib.hid (readTree_long s.data.toList (by simp; omega))
    go_enter Try.func47, Try.ntmps47
    go_wp2_with fail
    go_ret2
    rw [HE.out]
    exact ⟨_, rfl, World.ownsRow_nil _ _ _ _, Below.refl _ _⟩
  · have HE := Lib.hid (readTree_impl s.data.toList)
    go_enter Try.func47, Try.ntmps47
    go_wp2_with fail
    go_loopw [4, 5] (fun v i wr => ∃ k g cap : Nat, k ≤ s.size ∧ i = .int .i64 k ∧ v = .slice (some ⟨g, 0, none⟩) (nodesI (s.data.toList.take k)).length cap ∧ wr.ownsRow w.heap.size 4 1 (.slice (some ⟨g, 0, none⟩) (nodesI (s.data.toList.take k)).length cap) (nodesI (s.data.toList.take k)).length ((nodesI (s.data.toList.take k)).map .bool) ∧ Below w.heap.size w wr) (fun _ i _ => s.size - (intOf i).toNat)
    case atStart => exact ⟨0, _, _, Nat.zero_le _, rfl, rfl, World.ownsRow_made _ #[] 0 (by simp) (by simp [maxLen]) rfl, laid_below _ _⟩
    case round =>
      obtain ⟨k, g, cap, hk, rfl, rfl, hown, hB⟩ := hrel
      have hle : (nodesI (s.data.toList.take k)).length ≤ 4000 := by have := nodesI_le (s.data.toList.take k); have := List.length_take_le k s.data.toList; omega
      by_cases hlt : k < s.size
      · have HS := Lib.hid (take_snoc s k hlt)
        by_cases h41 : s[k].toNat = 41
        · have hz : ((s[k].toNat : Int) != 41) = false := by simp [h41]
          have HN : Hid (nodesI (s.data.toList.take (k + 1)) = nodesI (s.data.toList.take k)) := by
            unfold Hid; rw [HS.out, nodesI_append]; simp [nodesI, h41]
          clear h41
          go_wp2_with fail
          go_roundw
          case rel => exact ⟨k + 1, g, cap, by omega, by go_num, by rw [HN.out], by rw [HN.out]; exact hown, hB⟩
          case measure => simp [intOf]; omega
        · have hz : ((s[k].toNat : Int) != 41) = true := by simp; omega
          have HN : Hid (nodesI (s.data.toList.take (k + 1)) = nodesI (s.data.toList.take k) ++ [((s[k].toNat : Int) == 40)]) := by
            unfold Hid; rw [HS.out, nodesI_append]
            have : ((s[k].toNat : Int) == 40) = (s[k].toNat == 40) := by
              rw [Bool.eq_iff_iff]; simp; omega
            rw [this]
            simp [nodesI, h41]
          clear h41
          go_wp2_with (at_builtin; refine wpList_app rfl _ _ _ rfl Try.underlying22 infoBoolS rfl (by omega) w wr hown hB rfl 1 #[.bool ((s[k].toNat : Int) == 40)] rfl (laid_below _ _) (heap_alloc_new _ _) rfl (by simp [Value.oneCell']) (by omega) (by unfold maxLen; omega) (by omega) ?_; intro g1 cap1 w1 hown1 hB1)
          go_roundw
          case rel => exact ⟨k + 1, g1, cap1, by omega, by go_num, by rw [HN.out, List.length_append]; rfl, by rw [HN.out, List.length_append, List.map_append]; exact hown1, hB1⟩
          case measure => simp [intOf]; omega
      · have e1 : s.data.toList.take k = s.data.toList := List.take_of_length_le (by simp; omega)
        rw [e1] at hown hle
        clear e1
        have hsl := sl_of_own hown
        obtain ⟨m, hm⟩ : ∃ m, m = (nodesI s.data.toList).length := ⟨_, rfl⟩
        have HM := Lib.hid hm.symm
        rw [← hm] at hown hle
        rw [List.take_of_length_le (by simp; omega), ← hm]
        clear hm
        rcases Bool.eq_false_or_eq_true (isTreeB (nodesI s.data.toList)) with ht | ht
        rotate_left
        · have HT := Lib.hid ht; clear ht
          have HF : Hid (readTree s.data.toList = ([], false)) := by unfold Hid; rw [HE.out]; unfold readOk; rw [HT.out]; rfl
          go_wp2_with fail
          refine (isTree_is g 0 m cap _ false HT.out wr hsl HM.out (by omega)).mono ?_
          rintro e w' ⟨rfl, rfl⟩
          go_wp2_with fail
          go_ret2
          rw [HF.out]
          exact ⟨_, rfl, World.ownsRow_nil _ _ _ _, hB⟩
        · have HT := Lib.hid ht; clear ht
          go_wp2_with fail
          refine (isTree_is g 0 m cap _ true HT.out wr hsl HM.out (by omega)).mono ?_
          rintro e w' ⟨rfl, rfl⟩
          go_wp2_with fail
          refine (treeTextImpl_any g 0 m cap _ wr hsl HM.out (by omega)).mono ?_
          rintro e w2 ⟨rfl, hB2⟩
          have hown2 := own_below' hown hB2
          have hB3 := below_step hB hB2
          by_cases htx : treeTextOf (nodesI s.data.toList) = s.data.toList
          · have hz : (treeTextOf (nodesI s.data.toList) == s.toList) = true := by rw [htx, toList_data]; simp
            have HF : Hid (readTree s.data.toList = (nodesI s.data.toList, true)) := by unfold Hid; rw [HE.out]; unfold readOk; rw [HT.out, htx]; simp
            clear htx
            go_wp2_with fail
            go_ret2
            rw [HF.out]
            exact ⟨_, rfl, by rw [HM.out]; exact hown2, hB3⟩
          · have hz : (treeTextOf (nodesI s.data.toList) == s.toList) = false := by rw [toList_data]; simpa using htx
            have HF : Hid (readTree s.data.toList = ([], false)) := by unfold Hid; rw [HE.out]; unfold readOk; rw [HT.out]; simp [htx]
            clear htx
            go_wp2_with fail
            go_ret2
            rw [HF.out]
            exact ⟨_, rfl, World.ownsRow_nil _ _ _ _, hB3⟩

set_option maxRecDepth 100000 in
set_option maxHeartbeats 2000000 in
theorem l21Read_any (s : ByteArray) (w : World) (hsz : s.size ≤ 1048576) :
    Calls Try.prog 80 #[.string s] w fun e w' => ∃ v, e = .returned (.tuple #[v, .bool (readTree s.data.toList).2]) ∧
      w'.ownsRow w.heap.size 4 1 v (readTree s.data.toList).1.length ((readTree s.data.toList).1.map .bool) ∧ Below w.heap.size w w' := by
  go_enter Try.func80, Try.ntmps80
  go_wp2_with fail
  go_loopw [4, 5] (fun v i wr => ∃ k g cap m : Nat, k ≤ s.size ∧ i = .int .i64 k ∧ m ≤ 2000 ∧ v = .slice (some ⟨g, 0, none⟩) m cap ∧ wr.ownsRow w.heap.size 4 1 (.slice (some ⟨g, 0, none⟩) m cap) m ((nodesS (s.data.toList.take k)).map .bool) ∧ Below w.heap.size w wr ∧ Hid (m = (nodesS (s.data.toList.take k)).length)) (fun _ i _ => s.size - (intOf i).toNat)
  case atStart => exact ⟨0, _, _, 0, Nat.zero_le _, rfl, by omega, rfl, World.ownsRow_made _ #[] 0 (by simp) (by simp [maxLen]) rfl, laid_below _ _, by simp [Hid, nodesS]⟩
  case round =>
    obtain ⟨k, g, cap, m, hk, rfl, hm, rfl, hown, hB, HM⟩ := hrel
    by_cases hlt : k < s.size
    · have HS := Lib.hid (take_snoc s k hlt)
      by_cases h40 : s[k].toNat = 40
      · have hz : ((s[k].toNat : Int) == 40) = true := by simp [h40]
        have HN : Hid (nodesS (s.data.toList.take (k + 1)) = nodesS (s.data.toList.take k) ++ [true]) := by
          unfold Hid; rw [HS.out, nodesS_append]; simp [nodesS, h40]
        clear h40
        by_cases h2 : m + 1 ≤ 2000
        · go_wp2_with (at_builtin; refine wpList_app rfl _ _ _ rfl Try.underlying22 infoBoolS rfl (by omega) w wr hown hB rfl 1 #[.bool true] rfl (laid_below _ _) (heap_alloc_new _ _) rfl (by simp [Value.oneCell']) (by omega) (by unfold maxLen; omega) (by omega) ?_; intro g1 cap1 w1 hown1 hB1)
          go_roundw
          case rel => exact ⟨k + 1, g1, cap1, m + 1, by omega, by go_num, h2, rfl, by rw [HN.out, List.map_append]; exact hown1, hB1, by rw [HN.out, List.length_append, HM.out]; rfl⟩
          case measure => simp [intOf]; omega
        · have HF := Lib.hid (readTree_many s.data.toList (k + 1) (by rw [HN.out, List.length_append, ← HM.out]; simp; omega))
          go_wp2_with (at_builtin; refine wpList_app rfl _ _ _ rfl Try.underlying22 infoBoolS rfl (by omega) w wr hown hB rfl 1 #[.bool true] rfl (laid_below _ _) (heap_alloc_new _ _) rfl (by simp [Value.oneCell']) (by omega) (by unfold maxLen; omega) (by omega) ?_; intro g1 cap1 w1 hown1 hB1)
          go_ret2
          rw [HF.out]
          exact ⟨_, rfl, World.ownsRow_nil _ _ _ _, hB1⟩
      · have hz : ((s[k].toNat : Int) == 40) = false := by simp; omega
        by_cases h46 : s[k].toNat = 46
        · have hz2 : ((s[k].toNat : Int) == 46) = true := by simp [h46]
          have HN : Hid (nodesS (s.data.toList.take (k + 1)) = nodesS (s.data.toList.take k) ++ [false]) := by
            unfold Hid; rw [HS.out, nodesS_append]; simp [nodesS, h46]
          clear h40 h46
          by_cases h2 : m + 1 ≤ 2000
          · go_wp2_with (at_builtin; refine wpList_app rfl _ _ _ rfl Try.underlying22 infoBoolS rfl (by omega) w wr hown hB rfl 1 #[.bool false] rfl (laid_below _ _) (heap_alloc_new _ _) rfl (by simp [Value.oneCell']) (by omega) (by unfold maxLen; omega) (by omega) ?_; intro g1 cap1 w1 hown1 hB1)
            go_roundw
            case rel => exact ⟨k + 1, g1, cap1, m + 1, by omega, by go_num, h2, rfl, by rw [HN.out, List.map_append]; exact hown1, hB1, by rw [HN.out, List.length_append, HM.out]; rfl⟩
            case measure => simp [intOf]; omega
          · have HF := Lib.hid (readTree_many s.data.toList (k + 1) (by rw [HN.out, List.length_append, ← HM.out]; simp; omega))
            go_wp2_with (at_builtin; refine wpList_app rfl _ _ _ rfl Try.underlying22 infoBoolS rfl (by omega) w wr hown hB rfl 1 #[.bool false] rfl (laid_below _ _) (heap_alloc_new _ _) rfl (by simp [Value.oneCell']) (by omega) (by unfold maxLen; omega) (by omega) ?_; intro g1 cap1 w1 hown1 hB1)
            go_ret2
            rw [HF.out]
            exact ⟨_, rfl, World.ownsRow_nil _ _ _ _, hB1⟩
        · have hz2 : ((s[k].toNat : Int) == 46) = false := by simp; omega
          have HN : Hid (nodesS (s.data.toList.take (k + 1)) = nodesS (s.data.toList.take k)) := by
            unfold Hid; rw [HS.out, nodesS_append]; simp [nodesS, h40, h46]
          clear h40 h46
          go_wp2_with fail
          go_roundw
          case rel => exact ⟨k + 1, g, cap, m, by omega, by go_num, hm, rfl, by rw [HN.out]; exact hown, hB, by rw [HN.out]; exact HM⟩
          case measure => simp [intOf]; omega
    · rw [List.take_of_length_le (by simp; omega)] at hown HM
      have hsl := sl_of_own hown
      rcases Bool.eq_false_or_eq_true (isTreeB (nodesS s.data.toList)) with ht | ht
      rotate_left
      · have HT := Lib.hid ht; clear ht
        have HF : Hid (readTree s.data.toList = ([], false)) := by unfold Hid readTree readOk; rw [HT.out]; rfl
        go_wp2_with fail
        refine (l21Is_is g 0 m cap _ false HT.out wr hsl HM.out.symm (by omega)).mono ?_
        rintro e w' ⟨rfl, rfl⟩
        go_wp2_with fail
        go_ret2
        rw [HF.out]
        exact ⟨_, rfl, World.ownsRow_nil _ _ _ _, hB⟩
      · obtain ⟨h1, x, hx⟩ := (isTree_iff _).1 ht
        have HT := Lib.hid ht; clear ht
        have HX := Lib.hid hx
        have hxn : x.nodes ≤ 2000 := by rw [hx, T.length_enc] at h1; exact h1
        have hsl2 : Sl wr g 0 (x.enc.map .bool) := by rw [← hx]; exact hsl
        have HTX : Hid (treeTextOf (nodesS s.data.toList) = x.text) := by unfold Hid; rw [hx, treeTextOf_enc x hxn]
        clear h1 hx
        go_wp2_with fail
        refine (l21Is_is g 0 m cap _ true HT.out wr hsl HM.out.symm (by omega)).mono ?_
        rintro e w' ⟨rfl, rfl⟩
        go_wp2_with fail
        refine (l21Text_any g 0 m cap x wr hsl2 (by rw [← HX.out]; exact HM.out.symm) hm).mono ?_
        rintro e w2 ⟨rfl, hB2⟩
        have hown2 := own_below' hown hB2
        have hB3 := below_step hB hB2
        by_cases htx : x.text = s.data.toList
        · have hz : (x.text == s.toList) = true := by rw [htx, toList_data]; simp
          have HF : Hid (readTree s.data.toList = (nodesS s.data.toList, true)) := by unfold Hid readTree readOk; rw [HT.out, HTX.out, htx]; simp
          clear htx
          go_wp2_with fail
          go_ret2
          rw [HF.out]
          exact ⟨_, rfl, by rw [← HM.out]; exact hown2, hB3⟩
        · have hz : (x.text == s.toList) = false := by rw [toList_data]; simpa using htx
          have HF : Hid (readTree s.data.toList = ([], false)) := by unfold Hid readTree readOk; rw [HT.out, HTX.out]; simp [htx]
          clear htx
          go_wp2_with fail
          go_ret2
          rw [HF.out]
          exact ⟨_, rfl, World.ownsRow_nil _ _ _ _, hB3⟩

theorem specReadTree_any (s : ByteArray) (w : World) (hsz : s.size ≤ 1048576) :
    Calls Try.prog 46 #[.string s] w fun e w' => ∃ v, e = .returned (.tuple #[v, .bool (readTree s.data.toList).2]) ∧
      w'.ownsRow w.heap.size 4 1 v (readTree s.data.toList).1.length ((readTree s.data.toList).1.map .bool) ∧ Below w.heap.size w w' := by
  go_enter Try.func46, Try.ntmps46
  go_wp2_with fail
  refine (l21Read_any s w hsz).mono ?_
  rintro e w1 ⟨v, rfl, hown, hB⟩
  go_wp2_with fail
  go_ret2
  exact ⟨v, rfl, hown, hB⟩
end Go.Proofs.Ythanekchopkblaa
