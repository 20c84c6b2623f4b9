/- Tag systems: all words of a length, as the program makes them. -/
import Derived.Test.YtcfkjigapnknnaaTagImpl3
import Derived.Test.YtcfkjigapnknnaaTagRow
namespace Go.Proofs.Ytcfkjigapnknnaa
open Go.RowKit
set_option linter.all false

theorem one_all {xs : List Value} (h : xs.all (fun u => u.oneCell' = true) = true) : ∀ u ∈ xs, u.oneCell' = true := fun u hu => by
  have := List.all_eq_true.1 h u hu; simpa using this

theorem WdRow.first (w : World) : WdRow w.heap.size (.slice (some ⟨w.heap.size + 1, 0, none⟩) 1 1) [.slice (some ⟨w.heap.size, 0, none⟩) 0 0] [[]] ((w.alloc (.cells #[] 2)).alloc (.cells #[.slice (some ⟨w.heap.size, 0, none⟩) 0 0] 25)) := by
  have hsz : (w.alloc (.cells #[] 2)).heap.size = w.heap.size + 1 := by simp
  have i0 : Inn 1 2 w.heap.size (w.alloc (.cells #[] 2)).heap.size [.slice (some ⟨w.heap.size, 0, none⟩) 0 0] (itsOf oneI [[]]) (w.alloc (.cells #[] 2)) :=
    (Inn.nil 1 w.heap.size w.heap.size 2 _).snoc (b := w.heap.size) (it := (0, [])) (own_empty w _ 1) (Nat.le_refl _) (Nat.le_refl _) (Nat.le_refl _) (by simp)
  have B := laid_below (w.alloc (.cells #[] 2)) (.cells #[.slice (some ⟨w.heap.size, 0, none⟩) 0 0] 25)
  have o0 := own_laid (w.alloc (.cells #[] 2)) 25 1 1 #[.slice (some ⟨w.heap.size, 0, none⟩) 0 0] rfl (by unfold maxLen; omega)
  rw [hsz] at o0
  exact ⟨own_base o0 (by omega), (i0.below B).wide B.size⟩

set_option maxRecDepth 100000 in
theorem joined2_any (g : Nat) (u1 u2 : Value) (n1 n2 : Nat) (x y : List Int) (w : World) (hs : Sl w g 0 [u1, u2]) (s1 : Src 1 w u1 n1 (x.map (Value.int .i64))) (s2 : Src 1 w u2 n2 (y.map (Value.int .i64))) (h1 : n1 ≤ 1048576) (h2 : n2 ≤ 1048576) :
    Calls Try.prog 133 #[.slice (some ⟨g, 0, none⟩) 2 2] w fun e w' => ∃ v, e = .returned v ∧ w'.ownsRow w.heap.size 2 1 v (n1 + n2) ((x ++ y).map (Value.int .i64)) ∧ Below w.heap.size w w' := by
  refine (joined3_any g 0 [u1, u2] [n1, n2] [x.map (Value.int .i64), y.map (Value.int .i64)] w hs ?_ (by simp; omega) (by simp)).mono ?_
  · refine ⟨rfl, rfl, fun j v n xs h1 h2 h3 => ?_⟩
    match j, h1, h2, h3 with
    | 0, h1, h2, h3 => simp only [List.getElem?_cons_zero, List.getElem?_cons_succ, Option.some.injEq] at h1 h2 h3; subst h1; subst h2; subst h3; exact ⟨s1, one_ints _ _⟩
    | 1, h1, h2, h3 => simp only [List.getElem?_cons_zero, List.getElem?_cons_succ, Option.some.injEq] at h1 h2 h3; subst h1; subst h2; subst h3; exact ⟨s2, one_ints _ _⟩
  · rintro e w' ⟨v, rfl, ho, hb⟩
    refine ⟨v, rfl, ?_, hb⟩
    have e1 : [n1, n2].sum = n1 + n2 := by simp
    have e2 : [x.map (Value.int .i64), y.map (Value.int .i64)].flatten = (x ++ y).map (Value.int .i64) := by simp
    rw [e1, e2] at ho
    exact ho

theorem WdRow.base {lo lo' : Nat} {V : Value} {us : List Value} {ts : List (List Int)} {W : World} (h : WdRow lo V us ts W) (hl : lo' ≤ lo) : WdRow lo' V us ts W :=
  ⟨own_base h.own hl, h.inn.len, fun j v it h1 h2 => own_base (h.inn.own j v it h1 h2) hl, h.inn.top, h.inn.apart⟩

def wordsAt (n : Nat) (ts : List (List Int)) (j : Nat) : List (List Int) := (ts.take j).flatMap fun w => (ltrs n).map fun a => w ++ [a]
theorem wordsAt_zero (n : Nat) (ts : List (List Int)) : wordsAt n ts 0 = [] := rfl
theorem wordsAt_succ {n : Nat} {ts : List (List Int)} {j : Nat} {t : List Int} (h : ts[j]? = some t) : wordsAt n ts (j + 1) = wordsAt n ts j ++ (ltrs n).map fun a => t ++ [a] := by
  rw [wordsAt, List.take_add_one, h]; simp [wordsAt]
theorem wordsAt_all (n l : Nat) {m : Nat} (h : (wordsN n l).length ≤ m) : wordsAt n (wordsN n l) m = wordsN n (l + 1) := by rw [wordsAt, List.take_of_length_le h]; rfl
theorem wordsAt_len (n : Nat) (ts : List (List Int)) (j : Nat) (hj : j ≤ ts.length) : (wordsAt n ts j).length = j * n := by
  rw [wordsAt, List.length_flatMap]
  simp only [List.length_map, ltrs_len]
  rw [List.map_const', List.sum_replicate_nat, List.length_take, Nat.min_eq_left hj]

set_option maxRecDepth 100000 in
set_option maxHeartbeats 1000000 in
theorem wordsOver_any (n l : Nat) (w : World) (hn : n ≤ 4) (hl : l ≤ 3) :
    Calls Try.prog 132 #[.int .i64 n, .int .i64 l] w fun e w' => ∃ V us, e = .returned V ∧ WdRow w.heap.size V us (wordsN n l) w' ∧ Below w.heap.size w w' := by
  obtain ⟨w0, HW0, R0, B0⟩ : ∃ w0, Hid (w0 = (w.alloc (.cells #[] 2)).alloc (.cells #[.slice (some ⟨w.heap.size, 0, none⟩) 0 0] 25)) ∧ WdRow w.heap.size (.slice (some ⟨w.heap.size + 1, 0, none⟩) 1 1) [.slice (some ⟨w.heap.size, 0, none⟩) 0 0] [[]] w0 ∧ Below w.heap.size w w0 :=
    ⟨_, rfl, WdRow.first w, below_step (laid_below _ _) (laid_below _ _)⟩
  go_enter Try.func132, Try.ntmps132
  go_wp2_with fail
  rw [← HW0.out]
  go_loopw [5, 13] (fun V i wr => ∃ (k : Nat) (us : List Value), k ≤ l ∧ i = .int .i64 k ∧ WdRow w.heap.size V us (wordsN n k) wr ∧ Below w.heap.size w wr) (fun _ i _ => l - (intOf i).toNat)
  case atStart => exact ⟨0, _, Nat.zero_le _, rfl, R0, B0⟩
  case round =>
    obtain ⟨k, us, hk, rfl, hrow, hB⟩ := hrel
    clear HW0 R0 B0
    obtain ⟨wo, rfl⟩ : ∃ wo, wo = wr := ⟨_, rfl⟩
    obtain ⟨A, c, rfl⟩ := own_form hrow.own
    have HU := Lib.hid hrow.len
    by_cases hlt : k < l
    rotate_left
    · obtain rfl : k = l := by omega
      go_wp2_with fail
      go_ret
      exact ⟨_, _, rfl, hrow, hB⟩
    obtain ⟨m, hm⟩ : ∃ m, us.length = m := ⟨_, rfl⟩
    have hm64 : m ≤ 64 := by rw [← hm, hrow.len, wordsN_len]; exact pow_small hn (by omega)
    rw [hm]
    have HMU := Lib.hid hm
    have HM : Hid ((wordsN n k).length = m) := by unfold Hid; rw [← hm, hrow.len]
    clear hm
    obtain ⟨w1, HW1, B1, R1⟩ : ∃ w1, Hid (w1 = wo.alloc (.cells #[] 25)) ∧ Below wo.heap.size wo w1 ∧ WdRow wo.heap.size (.slice (some ⟨wo.heap.size, 0, none⟩) 0 0) [] [] w1 := ⟨_, rfl, laid_below _ _, WdRow.nil wo⟩
    go_wp2_with fail
    rw [← HW1.out]
    go_loopw [6, 18] (fun V2 i wr => ∃ (j : Nat) (us2 : List Value), j ≤ m ∧ i = .int .i64 j ∧ WdRow wo.heap.size V2 us2 (wordsAt n (wordsN n k) j) wr ∧ Below wo.heap.size wo wr) (fun _ i _ => m - (intOf i).toNat)
    case atStart => exact ⟨0, [], Nat.zero_le _, rfl, R1, B1⟩
    case round =>
      obtain ⟨j, us2, hj, rfl, hrow2, hB2⟩ := hrel
      clear HW1 B1 R1
      obtain ⟨wo2, rfl⟩ : ∃ wo2, wo2 = wr := ⟨_, rfl⟩
      obtain ⟨A2, c2, rfl⟩ := own_form hrow2.own
      by_cases hjlt : j < m
      rotate_left
      · have e1 : wordsAt n (wordsN n k) j = wordsN n (k + 1) := wordsAt_all n k (by have := HM.out; omega)
        rw [e1] at hrow2
        have hrow3 : WdRow w.heap.size (.slice A2 us2.length c2) us2 (wordsN n (k + 1)) wo2 := hrow2.base hB.size
        have hB3 := below_step hB hB2
        clear e1 hrow2
        obtain ⟨m2, hm2⟩ : ∃ m2, us2.length = m2 := ⟨_, rfl⟩
        rw [hm2] at hrow3 ⊢
        go_wp2_with fail
        go_roundw
        case rel => exact ⟨k + 1, us2, by omega, by go_num, hrow3, hB3⟩
        case measure => simp [intOf]; omega
      obtain ⟨x, HX⟩ := hget HM hjlt
      have hrowj := hrow.below hB2
      obtain ⟨u, hu, hsrc⟩ := hrowj.src HX.out
      obtain ⟨Au, cu, rfl⟩ := hsrc.form
      have hxl : x.length = k := wordsN_mem (List.mem_of_getElem? HX.out)
      rw [hxl] at hsrc hu
      obtain ⟨bA, oA, hA, hsl⟩ := (arg_of_own hrowj.own).sl (k := j) (by have := HMU.out; omega)
      have hcu := hsl.at hu
      have hlen2 : us2.length = j * n := by rw [hrow2.len, wordsAt_len _ _ _ (by have := HM.out; omega)]
      have HL2 := Lib.hid hlen2
      have HXL := Lib.hid hxl
      subst hA
      have HUJ := Lib.hid hu
      clear hu hsl hlen2 hxl hrowj hsrc
      go_wp2_with fail
      go_loopw [6, 23] (fun V3 i wr => ∃ (a : Nat) (us3 : List Value), a ≤ n ∧ i = .int .i64 a ∧ WdRow wo.heap.size V3 us3 (wordsAt n (wordsN n k) j ++ (ltrs a).map fun a => x ++ [a]) wr ∧ Below wo.heap.size wo wr) (fun _ i _ => n - (intOf i).toNat)
      case atStart => exact ⟨0, us2, Nat.zero_le _, rfl, by simpa [ltrs] using hrow2, hB2⟩
      case round =>
        obtain ⟨a, us3, ha, rfl, hrow3, hB3⟩ := hrel
        clear hrow2
        obtain ⟨A3, c3, rfl⟩ := own_form hrow3.own
        by_cases halt : a < n
        rotate_left
        · obtain rfl : a = n := by omega
          have e1 : wordsAt a (wordsN a k) j ++ (ltrs a).map (fun b => x ++ [b]) = wordsAt a (wordsN a k) (j + 1) := (wordsAt_succ HX.out).symm
          rw [e1] at hrow3
          clear e1
          go_wp2_with fail
          go_roundw
          case rel => exact ⟨j + 1, us3, by omega, by go_num, hrow3, hB3⟩
          case measure => simp [intOf]; omega
        have hlen3 : us3.length = j * n + a := by rw [hrow3.len, List.length_append, wordsAt_len _ _ _ (by have := HM.out; omega), List.length_map, ltrs_len]
        have hb3 : us3.length ≤ 1000 := by
          have : j * n ≤ 64 * 4 := Nat.mul_le_mul (by omega) hn
          omega
        obtain ⟨m3, hm3⟩ : ∃ m3, us3.length = m3 := ⟨_, rfl⟩
        have own3 := hrow3.own
        rw [hm3] at own3 hb3 ⊢
        have HM3 := Lib.hid hm3
        clear hlen3 hm3
        obtain ⟨wa, HWA, BA, xa, ya⟩ := al2 wr (.cells #[.int .i64 a] 2) (.cells #[.slice Au k cu, .slice (some ⟨wr.heap.size, 0, none⟩) 1 1] 25)
        have sla : Sl wa (wr.heap.size + 1) 0 [.slice Au k cu, .slice (some ⟨wr.heap.size, 0, none⟩) 1 1] := ⟨heap_lt ya, fun q v hq => by rw [cell_of_heap ya]; simpa using hq⟩
        have sb : Src 1 wa (.slice (some ⟨wr.heap.size, 0, none⟩) 1 1) 1 ([(a : Int)].map (Value.int .i64)) := Src.of_sl ⟨heap_lt xa, fun q v hq => by rw [cell_of_heap xa]; simpa using hq⟩ rfl
        have sa : Src 1 wa (.slice Au k cu) k (x.map (Value.int .i64)) := by
          obtain ⟨u', hu', h'⟩ := ((hrow.below hB3).below BA).src HX.out
          rw [HUJ.out] at hu'
          injection hu' with hu'
          rw [HXL.out] at h'
          rw [hu']; exact h'
        have own3a := own_below' own3 BA
        clear xa ya
        go_wp2_with fail
        rw [← HWA.out]
        refine (joined2_any (wr.heap.size + 1) _ _ k 1 x [(a : Int)] wa sla sa sb (by omega) (by omega)).mono ?_
        rintro e wb ⟨v, rfl, ownv, bb⟩
        obtain ⟨Av, cv, rfl⟩ := own_form ownv
        obtain ⟨wc, HWC, BC, yc⟩ := al1 wb (.cells #[.slice Av (k + 1) cv] 25)
        have own3c := own_below' (own_below' own3a bb) BC
        have slc : Src 1 wc (.slice (some ⟨wb.heap.size, 0, none⟩) 1 1) 1 [.slice Av (k + 1) cv] := Src.of_sl ⟨heap_lt yc, fun q v hq => by rw [cell_of_heap yc]; simpa using hq⟩ rfl
        have ownvc := own_base (own_below' ownv BC) BA.size
        have Bac := below_step (below_step BA bb) BC
        have hsz : wo.heap.size ≤ wc.heap.size := Nat.le_trans hB3.size Bac.size
        have BW := below_step hB3 Bac
        clear own3a bb BC yc ownv sla sb sa own3 BA
        go_wp2_with (at_builtin; rw [← HWC.out]; refine wpList_appx rfl _ _ _ rfl Try.underlying45 infoInt64SS rfl (by omega) wo.heap.size own3c hsz rfl slc rfl (one_all rfl) (by unfold maxLen; omega) (by omega) ?_; intro V4 w4 own4 hg4 hnil4; clear hnil4; have BG := grown_below BW own3c (Nat.le_refl _) hg4; obtain ⟨A4, c4, rfl⟩ := own_form own4)
        have hrow4 : WdRow wo.heap.size (.slice A4 (m3 + 1) c4) (us3 ++ [.slice Av (k + 1) cv]) (wordsAt n (wordsN n k) j ++ (ltrs (a + 1)).map fun b => x ++ [b]) w4 := by
          have h1 := hrow3.push (V' := .slice A4 (m3 + 1) c4) (u := .slice Av (k + 1) cv) (t := x ++ [(a : Int)]) hB3.size Bac (by rw [List.length_append, HXL.out]; exact ownvc) (by rw [HM3.out]; exact hg4) (by rw [HM3.out]; exact own4)
          rw [ltrs_succ, List.map_append, ← List.append_assoc]
          exact h1
        clear own3c slc ownvc Bac hsz BW own4 hg4
        go_roundw
        case rel => exact ⟨a + 1, _, by omega, by go_num, hrow4, BG⟩
        case measure => simp [intOf]; omega
end Go.Proofs.Ytcfkjigapnknnaa
