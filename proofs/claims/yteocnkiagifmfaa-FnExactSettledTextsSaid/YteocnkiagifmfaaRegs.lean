/- Registers: SortList, registersCode, moveRegister, MoveRegister, ClearRegister and the reference's l00Has, l07Apart, l07Clear, l07Move, MoveRegister, ClearRegister. -/
import Derived.Test.YteocnkiagifmfaaShift
import Derived.Test.YteocnkiagifmfaaSort
namespace Go.Proofs.Yteocnkiagifmfaa
open Go.RowKit
set_option linter.all false
attribute [local go_sem ↓] Go.wp_at_zero Go.wp_at_succ

theorem own_cap {w : World} {base : Nat} {e : TypeId} {size n : Nat} {v : Value} {xs : List Value} (h : w.ownsRow base e size v n xs) : ∀ A c, v = .slice A n c → n ≤ c := by
  intro A c hv
  rcases h.2 with ⟨h0, h1⟩ | ⟨g, cap, cur, h0, _, _, h1, _⟩
  · omega
  · rw [h0] at hv; injection hv with _ _ h3; omega
/-- The code for registers that must be different. -/
def regsCode (xs : List Int) : Int := if xs.all (inB · 0 23) then (if nodupB xs then 0 else 4) else 2
theorem upB_srt (xs : List Int) : upB (srt xs) = nodupB xs := by
  rw [Bool.eq_iff_iff, upB_iff]
  have hle := srt_le xs
  have h0 : nodupB xs = true ↔ (srt xs).Nodup := by rw [(srt_perm xs).nodup_iff]; simp [nodupB]
  rw [h0]
  have hg : ∀ j, j < (srt xs).length → ∀ h : j < (srt xs).length, (srt xs).getD j 0 = (srt xs)[j] := by intro j _ h; exact getD_at (List.getElem?_eq_getElem h)
  constructor
  · intro h
    rw [List.nodup_iff_pairwise_ne, List.pairwise_iff_getElem]
    intro i j hi hj hij
    have h1 := h i (by omega)
    rw [hg i hi hi, hg (i + 1) (by omega) (by omega)] at h1
    have h2 : (srt xs)[i + 1]'(by omega) ≤ (srt xs)[j] := by
      by_cases e : i + 1 = j
      · subst e; omega
      · exact List.pairwise_iff_getElem.1 hle (i + 1) j (by omega) hj (by omega)
    omega
  · intro h j hj
    rw [hg j (by omega) (by omega), hg (j + 1) hj hj]
    have h1 := List.pairwise_iff_getElem.1 hle j (j + 1) (by omega) hj (by omega)
    have h2 := List.pairwise_iff_getElem.1 (List.nodup_iff_pairwise_ne.1 h) j (j + 1) (by omega) hj (by omega)
    omega

theorem allWithin_is (b off n c : Nat) (xs : List Int) (lo hi : Int) (v : Bool) (hv : xs.all (inB · lo hi) = v) (w : World) (hs : Sl w b off (xs.map (.int .i64))) (hl : xs.length = n) (hn : n ≤ 4194304) :
    Calls Try.prog 178 #[.slice (some ⟨b, off, none⟩) n c, .int .i64 lo, .int .i64 hi] w fun e w' => e = .returned (.bool v) ∧ w = w' := by
  subst hv; exact allWithin_any b off n c xs lo hi w hs hl hn
theorem rising_is (b off n c : Nat) (xs : List Int) (v : Bool) (hv : upB xs = v) (w : World) (hs : Sl w b off (xs.map (.int .i64))) (hl : xs.length = n) (hn : n ≤ 4194304) :
    Calls Try.prog 187 #[.slice (some ⟨b, off, none⟩) n c] w fun e w' => e = .returned (.bool v) ∧ ∃ q, w' = w.drewN q := by
  subst hv; exact rising_any b off n c xs w hs hl hn

set_option maxRecDepth 100000 in
theorem cloneInt64_any (v0 : Value) (n : Nat) (xs : List Int) (w : World) (hsrc : Src 1 w v0 n (xs.map (Value.int .i64))) (hn : n ≤ 1048576) :
    Calls Try.prog 104 #[v0] w fun e w' => ∃ v, e = .returned v ∧ w'.ownsRow w.heap.size 2 1 v n (xs.map (Value.int .i64)) ∧ Below w.heap.size w w' := by
  rcases hsrc.2 with ⟨rfl, rfl⟩ | ⟨b, off, c, rfl, hs⟩
  · have h0 : xs.map (Value.int .i64) = [] := List.eq_nil_of_length_eq_zero (by simpa using hsrc.1)
    have H0 := Lib.hid h0; clear h0
    have hnl := run_nil_none Try.underlying28
    go_enter Try.func104, Try.ntmps104
    go_wp2
    go_ret
    exact ⟨_, rfl, by rw [H0.out]; exact World.ownsRow_nil _ _ _ _, Below.refl _ _⟩
  · have hown0 : (w.alloc (.cells #[] 2)).ownsRow w.heap.size 2 1 (.slice (some ⟨w.heap.size, 0, none⟩) 0 0) 0 [] := own_empty w 2 1
    have hB0 := laid_below w (.cells #[] 2)
    have hsrc1 := hsrc.below hB0
    have HO := Lib.hid (one_ints .i64 xs)
    clear hsrc hs
    have hnl := run_nil_some Try.underlying28 ⟨b, off, none⟩ n c
    go_enter Try.func104, Try.ntmps104
    go_wp2_with (at_builtin; refine wpList_appx rfl _ _ _ rfl Try.underlying28 infoInt64S rfl (by omega) w.heap.size hown0 hB0.size rfl hsrc1 rfl HO.out (by unfold maxLen; omega) (by omega) ?_; intro v2 w2 hown2 hg2 hnil2; have hB2 := grown_below hB0 hown0 (Nat.le_refl _) hg2; clear hnil2 hown0 hB0 hsrc1 hg2)
    go_ret
    exact ⟨_, rfl, by simpa using hown2, hB2⟩

/-- The instructions that add to the registers ts of n in all. -/
def incs (n : Nat) (ts : List Int) : List R4 := ts.mapIdx fun k t => ⟨0, t, if k + 1 = n then 0 else (k : Int) + 2, 0⟩
theorem incs_len (n : Nat) (ts : List Int) : (incs n ts).length = ts.length := by simp [incs]
theorem incs_step {n : Nat} {ts : List Int} {k : Nat} {t : Int} (h : ts[k]? = some t) : incs n (ts.take (k + 1)) = incs n (ts.take k) ++ [⟨0, t, if k + 1 = n then 0 else (k : Int) + 2, 0⟩] := by
  have hk := (List.getElem?_eq_some_iff.1 h).1
  unfold incs
  rw [List.take_add_one, h, List.mapIdx_append]
  simp [List.length_take, Nat.min_eq_left (Nat.le_of_lt hk)]
/-- The program that adds a register to others and makes it 0. -/
def moveP (f : Int) (ts : List Int) : List R4 := if ts.length = 0 then [⟨1, f, 0, 1⟩] else ⟨1, f, 1, (ts.length : Int) + 1⟩ :: incs ts.length ts
theorem moveP_len (f : Int) (ts : List Int) : (moveP f ts).length = ts.length + 1 := by
  unfold moveP; split
  · rename_i h; simp [h]
  · simp [incs_len]
theorem moveP_near (f : Int) (ts : List Int) (h : ts.length ≤ 1048576) : Near (moveP f ts) ∧ Kinds (moveP f ts) := by
  unfold moveP
  split
  · constructor
    · intro x hx; rw [List.mem_singleton] at hx; subst hx; simp
    · intro x hx; rw [List.mem_singleton] at hx; subst hx; simp
  · constructor
    · intro x hx
      rcases List.mem_cons.1 hx with rfl | hx
      · simp; omega
      · unfold incs at hx
        obtain ⟨i, hi, rfl⟩ := List.mem_mapIdx.1 hx
        simp only
        split <;> omega
    · intro x hx
      rcases List.mem_cons.1 hx with rfl | hx
      · simp
      · unfold incs at hx
        obtain ⟨i, hi, rfl⟩ := List.mem_mapIdx.1 hx
        simp

/-- The list of an assembly, read at the end. -/
theorem Asm.list {W : World} {B g : Nat} {xs : List R4} (h : Asm W B g xs) : ∃ v, W.cell? ⟨g, 0, none⟩ = some v ∧ W.ownsRow B 185 4 v xs.length (rows R4.vs xs) := by
  obtain ⟨_, v, hg, ho⟩ := h
  obtain ⟨g1, g2, -⟩ := var_facts hg
  exact ⟨v, g1, ho⟩

set_option maxRecDepth 100000 in
set_option maxHeartbeats 1000000 in
theorem moveRegister_any (f : Int) (v0 : Value) (n : Nat) (ts : List Int) (w : World) (hsrc : Src 1 w v0 n (ts.map (Value.int .i64))) (hn : n ≤ 1000) :
    Calls Try.prog 278 #[.int .i64 f, v0] w fun e w' => ∃ v, e = .returned v ∧ w'.ownsRow w.heap.size 185 4 v (n + 1) (rows R4.vs (moveP f ts)) ∧ Below w.heap.size w w' := by
  have HL : Hid (ts.length = n) := by have := hsrc.1; simpa [Hid] using this
  obtain ⟨A0, c0, rfl⟩ := hsrc.form
  have hasm : Asm (w.alloc (.cells #[.slice none 0 0] 283)) w.heap.size w.heap.size [] := ⟨Nat.le_refl _, _, heap_alloc_new _ _, World.ownsRow_nil _ _ _ _⟩
  have hb0 := laid_below w (.cells #[.slice none 0 0] 283)
  by_cases h0 : n = 0
  · subst h0
    have HM : Hid (moveP f ts = [⟨1, f, 0, 1⟩]) := by unfold Hid moveP; rw [if_pos HL.out]
    go_enter Try.func278, Try.ntmps278
    go_wp2_with fail
    refine (asmDec_any w.heap.size w.heap.size f 0 1 [] _ hasm (by simp)).mono ?_
    rintro e w1 ⟨rfl, hasm1, hb1⟩
    obtain ⟨v, hc, hown⟩ := hasm1.list
    clear hasm hasm1
    go_wp2
    go_ret
    exact ⟨_, rfl, by rw [HM.out]; exact hown, hb0.trans hb1⟩
  have hi0 : ((n : Int) == 0) = false := by simp [h0]
  have HM : Hid (moveP f ts = ⟨1, f, 1, (n : Int) + 1⟩ :: incs n ts) := by unfold Hid moveP; rw [HL.out, if_neg h0]
  have ha := hsrc.arg
  clear hsrc
  go_enter Try.func278, Try.ntmps278
  go_wp2_with fail
  refine (size_int64_any _ _ _ _).mono ?_
  rintro e w1 ⟨rfl, hw1⟩
  subst hw1
  go_wp2_with fail
  refine (asmDec_any w.heap.size w.heap.size f 1 ((n : Int) + 1) [] _ hasm (by simp)).mono ?_
  rintro e w1 ⟨rfl, hasm1, hb1⟩
  have hB1 := hb0.trans hb1
  clear hasm hb0 hb1
  go_wp2
  go_loopw [28] (fun i wr => ∃ k : Nat, k ≤ n ∧ i = .int .i64 k ∧ Below w.heap.size w wr ∧ Asm wr w.heap.size w.heap.size (⟨1, f, 1, (n : Int) + 1⟩ :: incs n (ts.take k))) (fun i _ => n - (intOf i).toNat)
  case atStart => exact ⟨0, Nat.zero_le _, rfl, hB1, hasm1⟩
  case round =>
    obtain ⟨k, hk, rfl, hB, hasmk⟩ := hrel
    by_cases hlt : k < n
    · obtain ⟨b, off, rfl, hs⟩ := ha.sl hlt
      obtain ⟨t, HT, ht⟩ := map_at (Value.int .i64) ts (k := k) (by have := HL.out; omega)
      have hct := (hs.below' hB).at ht
      clear ht
      have hlen : (⟨1, f, 1, (n : Int) + 1⟩ :: incs n (ts.take k) : List R4).length ≤ 1000000 := by simp [incs_len]; omega
      by_cases hlast : k + 1 = n
      · have hil : ((k : Int) == (n : Int) - 1) = true := by simp; omega
        have HS : Hid (incs n (ts.take (k + 1)) = incs n (ts.take k) ++ [⟨0, t, 0, 0⟩]) := by unfold Hid; rw [incs_step HT.out, if_pos hlast]
        have HX := Lib.hid hlast; clear hlast
        go_wp2_with fail
        refine (asmInc_any _ _ t 0 _ _ hasmk hlen).mono ?_
        rintro e w2 ⟨rfl, hasm2, hb2⟩
        have hB2 := hB.trans hb2
        rw [List.cons_append, ← HS.out] at hasm2
        clear hasmk hb2 hlen
        go_wp2
        go_roundw
        case rel => exact ⟨k + 1, by omega, by go_num, hB2, hasm2⟩
        case measure => simp [intOf]; omega
      · have hil : ((k : Int) == (n : Int) - 1) = false := by simp; omega
        have HS : Hid (incs n (ts.take (k + 1)) = incs n (ts.take k) ++ [⟨0, t, (k : Int) + 2, 0⟩]) := by unfold Hid; rw [incs_step HT.out, if_neg hlast]
        clear hlast
        go_wp2_with fail
        refine (asmInc_any _ _ t ((k : Int) + 2) _ _ hasmk hlen).mono ?_
        rintro e w2 ⟨rfl, hasm2, hb2⟩
        have hB2 := hB.trans hb2
        rw [List.cons_append, ← HS.out] at hasm2
        clear hasmk hb2 hlen
        go_wp2
        go_roundw
        case rel => exact ⟨k + 1, by omega, by go_num, hB2, hasm2⟩
        case measure => simp [intOf]; omega
    · obtain rfl : n = k := by omega
      rw [List.take_of_length_le (by have := HL.out; omega)] at hasmk
      obtain ⟨v, hc, hown⟩ := hasmk.list
      clear hasmk
      have HN : Hid ((⟨1, f, 1, (n : Int) + 1⟩ :: incs n ts : List R4).length = n + 1) := by have := HL.out; unfold Hid; simp [incs_len, this]
      rw [HN.out] at hown
      go_wp2
      go_ret
      exact ⟨_, rfl, by rw [HM.out]; exact hown, hB⟩

theorem l00Has_is (A : Option Addr) (n c : Nat) (xs : List Int) (x : Int) (v : Bool) (hv : decide (x ∈ xs) = v) (w : World) (ha : Arg w A n (xs.map (Value.int .i64))) (hn : n ≤ 1048576) :
    Calls Try.prog 184 #[.slice A n c, .int .i64 x] w fun e w' => e = .returned (.bool v) ∧ w = w' := by
  subst hv
  have HL : Hid (xs.length = n) := by have := ha.1; simpa [Hid] using this
  go_enter Try.func184, Try.ntmps184
  go_wp2
  go_loop [5] (fun i => ∃ k : Nat, k ≤ n ∧ i = .int .i64 k ∧ Hid (x ∉ xs.take k)) (fun i => n - (intOf i).toNat)
  case atStart => exact ⟨0, Nat.zero_le _, rfl, by simp [Hid]⟩
  case round =>
    obtain ⟨k, hk, rfl, HN⟩ := hrel
    by_cases hlt : k < n
    · obtain ⟨b, off, rfl, hs⟩ := ha.sl hlt
      obtain ⟨y, HY, hy⟩ := map_at (Value.int .i64) xs (k := k) (by have := HL.out; omega)
      have hcy := hs.at hy
      clear hy
      by_cases e : y = x
      · have e1 : (y == x) = true := by simpa using e
        have HM : Hid (decide (x ∈ xs) = true) := by unfold Hid; rw [decide_eq_true_eq, ← e]; exact getD_mem HY.out
        clear e
        go_wp2
        go_ret
        exact ⟨ret_bool HM.out.symm, rfl⟩
      · have e1 : (y == x) = false := by simpa using e
        have HM : Hid (x ∉ xs.take (k + 1)) := by
          have := HN.out
          unfold Hid
          rw [List.take_add_one, HY.out]
          simp only [Option.toList_some, List.mem_append, List.mem_singleton]
          rintro (h | h)
          · exact this h
          · exact e h.symm
        clear e
        go_wp2
        go_round
        case rel => exact ⟨k + 1, by omega, by go_num, HM⟩
        case measure => simp [intOf]; omega
    · go_wp2
      go_ret
      refine ⟨ret_bool ?_, rfl⟩
      have := HN.out
      rw [List.take_of_length_le (by have := HL.out; omega)] at this
      rw [decide_eq_false this]

theorem l07Clear_any (f : Int) (w : World) : Calls Try.prog 209 #[.int .i64 f] w fun e w' => ∃ v, e = .returned v ∧ w'.ownsRow w.heap.size 185 4 v 1 (rows R4.vs [⟨1, f, 0, 1⟩]) ∧ Below w.heap.size w w' := by
  go_enter Try.func209, Try.ntmps209
  go_wp2
  go_ret
  exact ⟨_, rfl, own_laid w _ 4 1 _ rfl (by simp [maxLen]), laid_below _ _⟩

set_option maxRecDepth 100000 in
set_option maxHeartbeats 1000000 in
theorem l07Move_any (f : Int) (A0 : Option Addr) (n c0 : Nat) (ts : List Int) (w : World) (ha : Arg w A0 n (ts.map (Value.int .i64))) (hn : n ≤ 1000) :
    Calls Try.prog 244 #[.int .i64 f, .slice A0 n c0] w fun e w' => ∃ v, e = .returned v ∧ w'.ownsRow w.heap.size 185 4 v (n + 1) (rows R4.vs (moveP f ts)) ∧ Below w.heap.size w w' := by
  have HL : Hid (ts.length = n) := by have := ha.1; simpa [Hid] using this
  by_cases h0 : n = 0
  · subst h0
    have HM : Hid (moveP f ts = [⟨1, f, 0, 1⟩]) := by unfold Hid moveP; rw [if_pos HL.out]
    go_enter Try.func244, Try.ntmps244
    go_wp2_with fail
    refine (l07Clear_any f _).mono ?_
    rintro e w1 ⟨v, rfl, hown, hb⟩
    go_wp2
    go_ret
    exact ⟨_, rfl, by rw [HM.out]; exact hown, hb⟩
  have hi0 : ((n : Int) == 0) = false := by simp [h0]
  have HM : Hid (moveP f ts = ⟨1, f, 1, (n : Int) + 1⟩ :: incs n ts) := by unfold Hid moveP; rw [HL.out, if_neg h0]
  have hown0 : (w.alloc (.cells #[.int .i64 1, .int .i64 f, .int .i64 1, .int .i64 ((n : Int) + 1)] 185)).ownsRow w.heap.size 185 4 (.slice (some ⟨w.heap.size, 0, none⟩) 1 1) 1 (rows R4.vs [⟨1, f, 1, (n : Int) + 1⟩]) := own_laid w _ 4 1 _ rfl (by simp [maxLen])
  have hb0 := laid_below w (.cells #[.int .i64 1, .int .i64 f, .int .i64 1, .int .i64 ((n : Int) + 1)] 185)
  go_enter Try.func244, Try.ntmps244
  go_wp2
  go_loopw [6, 7] (fun v i wr => ∃ k : Nat, k ≤ n ∧ i = .int .i64 k ∧ wr.ownsRow w.heap.size 185 4 v (1 + k) (rows R4.vs (⟨1, f, 1, (n : Int) + 1⟩ :: incs n (ts.take k))) ∧ Below w.heap.size w wr) (fun _ i _ => n - (intOf i).toNat)
  case atStart => exact ⟨0, Nat.zero_le _, rfl, hown0, hb0⟩
  case round =>
    obtain ⟨k, hk, rfl, hown, hB⟩ := hrel
    clear hown0 hb0
    by_cases hlt : k < n
    · obtain ⟨b, off, rfl, hs⟩ := ha.sl hlt
      obtain ⟨t, HT, ht⟩ := map_at (Value.int .i64) ts (k := k) (by have := HL.out; omega)
      have hct := (hs.below' hB).at ht
      have HT2 := Lib.hid ht
      clear ht
      obtain ⟨r, hr⟩ : ∃ r : Int, r = if k + 1 = n then 0 else (k : Int) + 2 := ⟨_, rfl⟩
      have HS : Hid (incs n (ts.take (k + 1)) = incs n (ts.take k) ++ [⟨0, t, r, 0⟩]) := by unfold Hid; rw [hr]; exact incs_step HT.out
      have w2 : ((k : Int) + 2).tmod ((n : Int) + 1) = r := by
        rw [hr, Int.tmod_eq_emod_of_nonneg (by omega)]
        split
        · rename_i h; rw [show (k : Int) + 2 = (n : Int) + 1 by omega]; exact Int.emod_self
        · exact Int.emod_eq_of_lt (by omega) (by omega)
      have w3 : ((k : Int) + 2) % ((n : Int) + 1) = r := by rw [← w2, Int.tmod_eq_emod_of_nonneg (by omega)]
      have w4 : IntKind.i64.wrap r = r := IntWalk.i64_in _ (by rw [hr]; split <;> omega)
      clear hr
      obtain ⟨Av, cv, rfl⟩ := own_form hown
      have w6 : 0 ≤ (k : Int) := by omega
      have w7 : (k : Int) < (n : Int) := by omega
      have w8 : ((n : Int) + 1 = 0) = False := eq_false (by omega)
      have w9 : IntKind.i64.wrap ((k : Int) + 2) = (k : Int) + 2 := IntWalk.i64_in _ (by omega)
      have w10 : IntKind.i64.wrap ((n : Int) + 1) = (n : Int) + 1 := IntWalk.i64_in _ (by omega)
      go_wp2
      go_region_held3 (fun w' => w'.cell? ⟨b, off + k, none⟩ = some (.int .i64 t)) (first | go_keep | exact (hs.below' hB1).at HT2.out)
        ((refine step_app (by rfl) _ _ _ (by rfl) Try.underlying98 infoInstr rfl (by omega) w wr hown hB (by rfl) 1 #[.int .i64 0, .int .i64 t, .int .i64 r, .int .i64 0] (by rfl) (laid_drew _ _) (heap_alloc_new _ _) rfl (by simp [Value.oneCell']) (by omega) (by unfold maxLen; omega) (by omega) ?_; intro g cap w1 hown1 hB1))
      clear w2 w3 w4 w6 w7 w8 w9 w10
      have hown2 : w1.ownsRow w.heap.size 185 4 (.slice (some ⟨g, 0, none⟩) (1 + k + 1) cap) (1 + (k + 1)) (rows R4.vs (⟨1, f, 1, (n : Int) + 1⟩ :: incs n (ts.take (k + 1)))) := by
        rw [HS.out, ← List.cons_append, rows_app, rows_one]; exact hown1
      clear hown1
      go_wp2
      go_roundw
      case rel => exact ⟨k + 1, by omega, by go_num, hown2, hB1⟩
      case measure => simp [intOf]; omega
    · obtain rfl : n = k := by omega
      rw [List.take_of_length_le (by have := HL.out; omega), Nat.add_comm] at hown
      go_wp2
      go_ret
      exact ⟨_, rfl, by rw [HM.out]; exact hown, hB⟩

/-- What MoveRegister gives. -/
def moveRegister (f : Int) (ts : List Int) : List R4 × Int :=
  if ts.length ≤ 24 then (if regsCode (f :: ts) = 0 then (moveP f ts, 0) else ([], regsCode (f :: ts))) else ([], 2)
theorem bndMoveRegister0 (f : Int) (ts : List Int) (h : ts.length ≤ 1048576) : (moveRegister f ts).1.length ≤ 1048576 := by
  unfold moveRegister
  split
  · split
    · show (moveP f ts).length ≤ _; rw [moveP_len]; omega
    · simp
  · simp
theorem regsCode_cases (xs : List Int) : regsCode xs = 0 ∨ regsCode xs = 2 ∨ regsCode xs = 4 := by
  unfold regsCode; split
  · split <;> simp
  · simp
