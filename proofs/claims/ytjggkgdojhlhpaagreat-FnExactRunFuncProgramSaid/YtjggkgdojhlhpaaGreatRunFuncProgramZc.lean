/- The law FnExactRunFuncProgram returns true for every input, and each argument reads afterwards as before: the proof, part 3. No conditions. -/
import Derived.Test.YtjggkgdojhlhpaaGreatRunFuncProgramZb
import Derived.StillTailTactics
import Derived.Maps.AppendAt
import Derived.Deep.RegionLaw
import Derived.Laws.CopyOwn
/- Recursive functions, the reference's side: l11End, l11Parts. -/
namespace Go.Proofs.YtjggkgdojhlhpaaGreat
open Go.RowKit
set_option linter.all false

/-- Where m functions begin, one behind the other. -/
def poss : Nat → Nat → List R3 → List Nat
  | 0, _, _ => []
  | m + 1, at', l => at' :: poss m (at' + (tPosAt fMany 1 0 l).toNat) (l.drop (tPosAt fMany 1 0 l).toNat)
theorem poss_len : ∀ (m k : Nat) (l : List R3), (poss m k l).length = m
  | 0, _, _ => rfl
  | m + 1, _, _ => by rw [poss, List.length_cons, poss_len]
theorem rts_drop (m : Nat) (l : List R3) : ∀ s q : Nat, tPosAt fMany s 0 l = (q : Int) → rts m s l = rts m 0 (l.drop q) := by
  induction l with
  | nil => intro s q _; rw [List.drop_nil, rts_nil, rts_nil]
  | cons x l ih =>
    intro s q h
    cases s with
    | zero => rw [tPosAt_zero] at h; have : q = 0 := by omega
              subst this; rfl
    | succ s =>
      rw [tPosAt_succ] at h
      rcases tPosAt_shift fMany l (s + fMany x) 1 0 with ⟨h1, _⟩ | ⟨q', h1, h2⟩
      · rw [Nat.zero_add, h1] at h; omega
      · rw [Nat.zero_add, h1] at h
        have : q = q' + 1 := by omega
        subst this
        rw [rts_skip, List.drop_succ_cons]
        exact ih _ q' (by rw [h2]; congr 1; omega)
def arAt (xs : List R3) (p : Nat) : Int := match xs[p]? with | some x => x.b | none => 0
theorem rts_poss (xs : List R3) (b : Nat) : ∀ (m k : Nat), fit fMany (m + b) (xs.drop k) = true → rts m 0 (xs.drop k) = (poss m k (xs.drop k)).map (arAt xs) ∧ ∀ p ∈ poss m k (xs.drop k), p < xs.length := by
  intro m
  induction m with
  | zero => intro k _; rw [rts_0]; exact ⟨rfl, by simp [poss]⟩
  | succ m ih =>
    intro k hf
    obtain ⟨q, h1, h2, h3, h4, h5⟩ := fit_split fMany (xs.drop k) 1 (m + b) 0 (by rw [← hf]; congr 1; omega)
    rw [Nat.zero_add] at h2
    have hk : k < xs.length := by have := h5 (by omega); rw [List.length_drop] at h1; omega
    have hx : xs[k]? = some xs[k] := List.getElem?_eq_getElem hk
    have hd : xs.drop k = xs[k] :: xs.drop (k + 1) := drop_at hx
    have hq : (tPosAt fMany 1 0 (xs.drop k)).toNat = q := by rw [h2]; simp
    rw [List.drop_drop] at h4
    obtain ⟨i1, i2⟩ := ih (k + q) h4
    rw [poss, hq, List.drop_drop]
    refine ⟨?_, ?_⟩
    · rw [List.map_cons, ← i1]
      have e1 : arAt xs k = xs[k].b := by unfold arAt; rw [hx]
      rw [e1, hd, rts_take]
      congr 1
      have h2' := h2
      rw [hd, show (1 : Nat) = 0 + 1 from rfl, tPosAt_succ, Nat.zero_add] at h2'
      obtain ⟨q', rfl⟩ : ∃ q', q = q' + 1 := ⟨q - 1, by have := h5 (by omega); omega⟩
      rcases tPosAt_shift fMany (xs.drop (k + 1)) (fMany xs[k]) (0 + 1) 0 with ⟨h6, _⟩ | ⟨q2, h6, h7⟩
      · rw [h6] at h2'; omega
      · rw [h6] at h2'
        have : q2 = q' := by omega
        subst this
        rw [rts_drop m _ _ q2 (by rw [h7]; congr 1; omega), List.drop_drop]
        congr 2
        omega
    · intro p hp
      rcases List.mem_cons.1 hp with rfl | hp
      · exact hk
      · exact i2 p hp

/-- What l11End gives. -/
def EndOk (xs : List R3) (k0 : Nat) (en : Int) (ok : Bool) : Prop :=
  (ok = true ∧ ∃ q : Nat, en = ((k0 + q : Nat) : Int) ∧ tPosAt fMany 1 k0 (xs.drop k0) = ((k0 + q : Nat) : Int) ∧ ((xs.drop k0).take q).all fOkN = true) ∨
  (ok = false ∧ ∀ q : Nat, tPosAt fMany 1 k0 (xs.drop k0) = ((k0 + q : Nat) : Int) → ((xs.drop k0).take q).all fOkN = false)
def EndPost (xs : List R3) (k0 : Nat) (w : World) (e : Ending) (w' : World) : Prop := (∃ (en : Int) (ok : Bool), e = .returned (.tuple #[.int .i64 en, .bool ok]) ∧ EndOk xs k0 en ok) ∧ Below w.heap.size w w'
theorem tPosAt_ge {l : List R3} {op k p : Nat} (h : tPosAt fMany op k l = (p : Int)) : k ≤ p := by
  rcases tPosAt_shift fMany l op k 0 with ⟨h1, _⟩ | ⟨q, h1, _⟩
  · rw [h1] at h; omega
  · rw [h1] at h; omega
theorem all_false {xs : List R3} {k0 k q : Nat} {x : R3} (hx : xs[k]? = some x) (h0 : k0 ≤ k) (hq : k + 1 ≤ k0 + q) (hb : fOkN x = false) : ((xs.drop k0).take q).all fOkN = false := by
  rw [Bool.eq_false_iff]
  intro hh
  have := List.all_eq_true.1 hh x (List.mem_of_getElem? (i := k - k0) (by rw [List.getElem?_take, if_pos (by omega), List.getElem?_drop, show k0 + (k - k0) = k by omega]; exact hx))
  rw [hb] at this; cases this
theorem all_next {xs : List R3} {k0 k : Nat} {x : R3} (hx : xs[k]? = some x) (h0 : k0 ≤ k) (h : ((xs.drop k0).take (k - k0)).all fOkN = true) (hb : fOkN x = true) : ((xs.drop k0).take (k + 1 - k0)).all fOkN = true := by
  rw [show k + 1 - k0 = (k - k0) + 1 by omega, List.take_add_one, List.getElem?_drop, show k0 + (k - k0) = k by omega, hx, List.all_append, h]
  simp [hb]

set_option maxRecDepth 100000 in
set_option maxHeartbeats 1000000 in
theorem l11End_any (A : Option Addr) (n c k0 : Nat) (kk : Int) (hkk : kk = (k0 : Int)) (xs : List R3) (w : World) (ha : Args 3 w A n (rows R3.vs xs)) (hn : n ≤ 1048576) (hk0 : k0 ≤ n) :
    Calls Tryz.prog 52 #[.slice A n c, .int .i64 kk] w (EndPost xs k0 w) := by
  subst hkk
  have HL : Hid (xs.length = n) := by have := ha.1; rw [rows_len R3.vs_len] at this; unfold Hid; omega
  go_enter Tryz.func52, Tryz.ntmps52
  go_wp2
  go_loopw [1, 6] (fun i o wr => ∃ k op : Nat, k0 ≤ k ∧ k ≤ n ∧ op ≤ 5 * k + 1 ∧ i = .int .i64 k ∧ o = .int .i64 op ∧ Below w.heap.size w wr ∧ Hid (tPosAt fMany 1 k0 (xs.drop k0) = tPosAt fMany op k (xs.drop k)) ∧ Hid (((xs.drop k0).take (k - k0)).all fOkN = true)) (fun i _ _ => n - (intOf i).toNat)
  case atStart => exact ⟨k0, 1, Nat.le_refl _, hk0, by omega, rfl, rfl, Below.refl _ _, rfl, by simp [Hid]⟩
  case round =>
    obtain ⟨k, op, hk, hkn, hop, rfl, rfl, hB, HT, HA⟩ := hrel
    by_cases ho : op = 0
    · subst ho
      go_wp2
      go_ret2
      refine ⟨⟨_, _, rfl, .inl ⟨rfl, k - k0, ?_, ?_, HA.out⟩⟩, hB⟩
      · rw [Nat.add_sub_cancel' hk]
      · rw [Nat.add_sub_cancel' hk, HT.out, tPosAt_zero]
    · have ho1 : (0 : Int) < (op : Int) := by omega
      obtain ⟨op, rfl⟩ : ∃ q, op = q + 1 := ⟨op - 1, by omega⟩
      by_cases hlt : k < n
      · obtain ⟨b, off, rfl, hs⟩ := ha.sl hlt
        obtain ⟨x, HX⟩ := hget HL hlt
        have HAT := Lib.hid (At3.of (hs.below' hB) HX.out)
        have hkn' : ((k : Int) == (n : Int)) = false := by simp; omega
        have hk0' : (0 : Int) ≤ (k : Int) := by omega
        have hkl' : (k : Int) < (n : Int) := by omega
        have HT2 : Hid (tPosAt fMany 1 k0 (xs.drop k0) = tPosAt fMany (op + fMany x) (k + 1) (xs.drop (k + 1))) := by unfold Hid; rw [HT.out, drop_at HX.out, tPosAt_succ]
        clear ho
        rcases Bool.eq_false_or_eq_true (fOkN x) with hok | hok
        · have HA2 := Lib.hid (all_next HX.out hk HA.out hok)
          have hm := fMany_le hok
          have HOK := Lib.hid hok
          clear hok
          go_wp2_with fail
          refine (l11Node_is _ _ x true HOK.out _ HAT.out).mono ?_
          rintro e w1 ⟨rfl, b1⟩
          have B1 := below_step hB b1
          have HAT1 := Lib.hid (At3.of (hs.below' B1) HX.out)
          go_wp2_with fail
          refine (l11Many_any _ _ x HOK.out _ HAT1.out).mono ?_
          rintro e w2 ⟨rfl, rfl⟩
          go_wp2
          go_roundw
          case rel => exact ⟨k + 1, op + fMany x, by omega, by omega, by omega, by go_num, by congr 1; omega, B1, HT2, HA2⟩
          case measure => simp [intOf]; omega
        · have HOK := Lib.hid hok
          have HN : Hid (∀ q : Nat, tPosAt fMany 1 k0 (xs.drop k0) = ((k0 + q : Nat) : Int) → ((xs.drop k0).take q).all fOkN = false) := fun q hq => all_false HX.out hk (by rw [HT2.out] at hq; exact tPosAt_ge hq) HOK.out
          clear hok
          go_wp2_with fail
          refine (l11Node_is _ _ x false HOK.out _ HAT.out).mono ?_
          rintro e w1 ⟨rfl, b1⟩
          have B1 := below_step hB b1
          go_wp2
          go_ret2
          exact ⟨⟨_, _, rfl, .inr ⟨rfl, HN.out⟩⟩, B1⟩
      · have hkn' : ((k : Int) == (n : Int)) = true := by simp; omega
        have HN : Hid (∀ q : Nat, tPosAt fMany 1 k0 (xs.drop k0) = ((k0 + q : Nat) : Int) → ((xs.drop k0).take q).all fOkN = false) := fun q hq => by
          rw [HT.out, List.drop_of_length_le (by have := HL.out; omega), tPosAt_none] at hq; omega
        go_wp2
        go_ret2
        exact ⟨⟨_, _, rfl, .inr ⟨rfl, HN.out⟩⟩, hB⟩

theorem infoIntK : (Tryz.prog.info? 3).map (fun i => (i.zero, i.size, i.bytes)) = some (some (Value.int .i64 0), 1, 8) := by kernel_rfl

set_option maxRecDepth 100000 in
set_option maxHeartbeats 1000000 in
theorem l11Parts_any (A : Option Addr) (n c k b : Nat) (kk : Int) (hkk : kk = (k : Int)) (xs : List R3) (x : R3) (hx : xs[k]? = some x) (hok : xs.all fOkN = true) (hfit : fit fMany (fMany x + b) (xs.drop (k + 1)) = true) (w : World) (ha : Args 3 w A n (rows R3.vs xs)) (hn : n ≤ 1048576) :
    Calls Tryz.prog 71 #[.slice A n c, .int .i64 kk] w fun e w' => ∃ v, e = .returned v ∧ w'.ownsRow w.heap.size 3 1 v (fMany x) ((poss (fMany x) (k + 1) (xs.drop (k + 1))).map fun p : Nat => Value.int .i64 p) ∧ Below w.heap.size w w' := by
  subst hkk
  have HL : Hid (xs.length = n) := by have := ha.1; rw [rows_len R3.vs_len] at this; unfold Hid; omega
  have HX := Lib.hid hx
  have hlt : k < n := by have := (List.getElem?_eq_some_iff.1 hx).1; have := HL.out; omega
  have HOKS := Lib.hid hok
  have hokx : fOkN x = true := List.all_eq_true.1 hok x (List.mem_of_getElem? hx)
  have hm := fMany_le hokx
  have HOK := Lib.hid hokx
  obtain ⟨m, hmm⟩ : ∃ m, m = fMany x := ⟨_, rfl⟩
  rw [← hmm] at hm hfit ⊢
  have HM := Lib.hid hmm
  have HF := Lib.hid hfit
  have own0 := own_empty w 3 1
  have B0 := laid_below w (.cells #[] 3)
  have HAT : Hid (∀ W, Below w.heap.size w W → ∃ bb off, A = some ⟨bb, off, none⟩ ∧ At3 W bb (off + k * 3) x) := fun W hW => by
    obtain ⟨bb, off, e, hs⟩ := ha.sl hlt
    exact ⟨bb, off, e, At3.of (hs.below' hW) HX.out⟩
  obtain ⟨bb, off, rfl, hat⟩ := HAT.out _ B0
  have HAT0 := Lib.hid hat
  have hk0' : (0 : Int) ≤ (k : Int) := by omega
  have hkl' : (k : Int) < (n : Int) := by omega
  clear hx hok hokx hmm hfit hat
  go_enter Tryz.func71, Tryz.ntmps71
  go_wp2_with fail
  refine (l11Many_any _ _ x HOK.out _ HAT0.out).mono ?_
  rintro e w1 ⟨rfl, rfl⟩
  rw [← HM.out]
  go_wp2
  go_loopw [5, 6, 7] (fun o p i wr => ∃ (j q : Nat) (A1 : Option Addr) (c1 : Nat) (ps : List Nat), j ≤ m ∧ q ≤ n ∧ i = .int .i64 ((m : Int) - j) ∧ p = .int .i64 q ∧ o = .slice A1 j c1 ∧ wr.ownsRow w.heap.size 3 1 (.slice A1 j c1) j (ps.map fun p : Nat => Value.int .i64 p) ∧ Below w.heap.size w wr ∧ Hid (poss m (k + 1) (xs.drop (k + 1)) = ps ++ poss (m - j) q (xs.drop q)) ∧ Hid (fit fMany (m - j + b) (xs.drop q) = true)) (fun _ _ i _ => (intOf i).toNat)
  case atStart => exact ⟨0, k + 1, _, _, [], Nat.zero_le _, by omega, by simp, by go_num, rfl, own0, B0, by simp [Hid], HF⟩
  case round =>
    obtain ⟨j, q, A1, c1, ps, hj, hq, rfl, rfl, rfl, own, hB, HP, HF2⟩ := hrel
    clear own0 B0 HAT0
    by_cases hjm : j < m
    · have hgt : (0 : Int) < (m : Int) - (j : Int) := by omega
      obtain ⟨z, h1, h2, h3, h4, h5⟩ := fit_split fMany (xs.drop q) 1 (m - (j + 1) + b) q (by have := HF2.out; rw [← this]; congr 1; omega)
      rw [List.length_drop] at h1
      rw [List.drop_drop] at h4
      have HZ := Lib.hid h2
      have HPP : Hid (poss m (k + 1) (xs.drop (k + 1)) = (ps ++ [q]) ++ poss (m - (j + 1)) (q + z) (xs.drop (q + z))) := by
        have hz0 : (tPosAt fMany 1 0 (xs.drop q)).toNat = z := by rw [tPosAt_from h2 0]; simp
        unfold Hid
        rw [HP.out, show m - j = (m - (j + 1)) + 1 by omega, poss, hz0, List.drop_drop, List.append_assoc]
        rfl
      have H4 := Lib.hid h4
      have hqz : q + z ≤ n := by have := HL.out; omega
      clear h1 h2 h3 h4 h5
      go_wp2_with (at_builtin; refine wpList_app rfl _ _ _ rfl Tryz.underlying106 infoIntK rfl (by omega) w wr own hB rfl 1 #[.int .i64 (q : Int)] rfl (laid_below _ _) (heap_alloc_new _ _) rfl (by simp [Value.oneCell']) (by omega) (by unfold maxLen; omega) (by omega) ?_; intro g cap w2 own2 B2; clear own hB)
      refine (l11End_any _ n c q _ rfl xs _ (ha.below B2) hn hq).mono ?_
      rintro e w3 ⟨⟨en, ok, rfl, hen⟩, b3⟩
      have B3 := below_step B2 b3
      have own3 := own_below' own2 b3
      clear own2 b3
      rcases hen with ⟨rfl, z2, rfl, hz2, -⟩ | ⟨rfl, hno⟩
      rotate_left
      · exfalso
        have h6 := hno z HZ.out
        rw [Bool.eq_false_iff] at h6
        exact h6 (List.all_eq_true.2 fun y hy => List.all_eq_true.1 HOKS.out y (List.mem_of_mem_drop (List.mem_of_mem_take hy)))
      · obtain rfl : z2 = z := by have := HZ.out; rw [hz2] at this; omega
        clear hz2
        go_wp2
        go_roundw
        case rel => exact ⟨j + 1, q + z2, _, _, ps ++ [q], by omega, hqz, by congr 1; omega, rfl, rfl, by rw [List.map_append]; exact own3, B3, HPP, H4⟩
        case measure => simp [intOf]; omega
    · obtain rfl : j = m := by omega
      have HE : Hid (poss j (k + 1) (xs.drop (k + 1)) = ps) := by unfold Hid; rw [HP.out, Nat.sub_self, poss, List.append_nil]
      go_wp2
      go_ret
      rw [HE.out]
      exact ⟨_, rfl, own, hB⟩
end Go.Proofs.YtjggkgdojhlhpaaGreat

/- Recursive functions, the reference's side: l11Fits, l11Whole, l11Is. -/
namespace Go.Proofs.YtjggkgdojhlhpaaGreat
open Go.RowKit
set_option linter.all false

/-- The places of the functions that follow, and what is read there. -/
structure Places (xs : List R3) (n m : Nat) (ps : List Nat) : Prop where
  len : ps.length = m
  lt : ∀ p ∈ ps, p < n
theorem Places.at {xs : List R3} {n m : Nat} {ps : List Nat} (h : Places xs n m ps) (hl : xs.length = n) {j : Nat} (hj : j < m) : ∃ p y, ps[j]? = some p ∧ p < n ∧ xs[p]? = some y ∧ arAt xs p = y.b ∧ (ps.map (arAt xs))[j]? = some y.b := by
  have h1 : ps[j]? = some (ps[j]'(by rw [h.len]; exact hj)) := List.getElem?_eq_getElem _
  have h2 := h.lt _ (List.mem_of_getElem? h1)
  generalize ps[j]'(by rw [h.len]; exact hj) = p at h1 h2
  have h3 : xs[p]? = some (xs[p]'(by rw [hl]; exact h2)) := List.getElem?_eq_getElem _
  generalize xs[p]'(by rw [hl]; exact h2) = y at h3
  have h4 : arAt xs p = y.b := by unfold arAt; rw [h3]
  exact ⟨p, y, h1, h2, h3, h4, by rw [List.getElem?_map, h1]; simp only [Option.map_some]; rw [h4]⟩
theorem rep_at {b c : Int} {k j : Nat} (h1 : 1 ≤ j) (h2 : j < k + 1) : (c :: List.replicate k b)[j]? = some b := by
  obtain ⟨i, rfl⟩ : ∃ i, j = i + 1 := ⟨j - 1, by omega⟩
  rw [List.getElem?_cons_succ, List.getElem?_replicate, if_pos (by omega)]

set_option maxRecDepth 100000 in
set_option maxHeartbeats 2000000 in
theorem l11Fits_is (b off n c k : Nat) (xs : List R3) (x : R3) (hx : xs[k]? = some x) (v : Bool) (hv : fFit xs k = v) (hok : xs.all fOkN = true) (bb : Nat) (hfit : fit fMany (fMany x + bb) (xs.drop (k + 1)) = true) (w : World) (hs : Sl w b off (rows R3.vs xs)) (hl : xs.length = n) (hn : n ≤ 1048576) :
    Calls Tryz.prog 53 #[.slice (some ⟨b, off, none⟩) n c, .int .i64 k] w fun e w' => e = .returned (.bool v) ∧ Below w.heap.size w w' := by
  have HL := Lib.hid hl; have HX := Lib.hid hx
  have hlt : k < n := by have := (List.getElem?_eq_some_iff.1 hx).1; omega
  have hokx : fOkN x = true := List.all_eq_true.1 hok x (List.mem_of_getElem? hx)
  have hcs := (fOkN_iff x).1 hokx
  obtain ⟨p0, p1, p2⟩ := hs.rec3 HX.out
  obtain ⟨w0, HW0, B0, y0⟩ := al1 w (.cells #[.int .i64 x.a, .int .i64 x.b, .int .i64 x.c] 35)
  have n0 : w0.cell? ⟨w.heap.size, 0, none⟩ = some (.int .i64 x.a) := by rw [cell_of_heap y0]; rfl
  have n1 : w0.cell? ⟨w.heap.size, 1, none⟩ = some (.int .i64 x.b) := by rw [cell_of_heap y0]; rfl
  have n2 : w0.cell? ⟨w.heap.size, 2, none⟩ = some (.int .i64 x.c) := by rw [cell_of_heap y0]; rfl
  have HS0 := Lib.hid (hs.below' B0)
  obtain ⟨hr1, hr2⟩ := rts_poss xs bb (fMany x) (k + 1) hfit
  obtain ⟨ps, hps⟩ : ∃ ps, ps = poss (fMany x) (k + 1) (xs.drop (k + 1)) := ⟨_, rfl⟩
  rw [← hps] at hr1 hr2
  have HPL : Hid (Places xs n (fMany x) ps) := ⟨by rw [hps, poss_len], fun p hp => by rw [← hl]; exact hr2 p hp⟩
  have HV : Hid (decide (ps.map (arAt xs) = fFols x) = v) := by unfold Hid; rw [← hv, fFit, hx]; simp only; rw [hr1]
  have HPA := Lib.hid (l11Parts_any (some ⟨b, off, none⟩) n c k bb k rfl xs x hx hok hfit w0 (Args.of_sl HS0.out (by rw [rows_len R3.vs_len, HL.out])) hn)
  rw [← hps] at HPA
  obtain ⟨m, hm⟩ : ∃ m, m = fMany x := ⟨_, rfl⟩
  have hm5 := fMany_le hokx
  rw [← hm] at HPA HPL hm5
  have HM := Lib.hid hm
  have HB0 := Lib.hid B0
  have hk0 : (0 : Int) ≤ (k : Int) := by omega
  have hkn : (k : Int) < (n : Int) := by omega
  obtain ⟨xa, xb, xc⟩ := x
  simp only at *
  clear hx hv hok hfit hokx hr1 hr2 hps hm y0 hl B0
  have start : ∀ (Q : Ending → World → Prop), True := fun _ => trivial
  clear start
  by_cases a3 : xa = 3
  · subst a3
    obtain ⟨kc, hkc⟩ : ∃ kc : Nat, xc = (kc : Int) := ⟨xc.toNat, by omega⟩
    subst hkc
    have hmk : m = kc + 1 := by rw [HM.out, fMany_3 rfl]; simp only; omega
    have HFO : Hid (fFols ⟨3, xb, (kc : Int)⟩ = (kc : Int) :: List.replicate kc xb) := by unfold Hid; rw [fFols_3 rfl]; simp
    rw [HFO.out] at HV
    obtain ⟨p, y, e1, e2, e3, e4, e5⟩ := HPL.out.at HL.out (j := 0) (by omega)
    have E1 := Lib.hid e1; have E3 := Lib.hid e3; have E5 := Lib.hid e5
    have hp0 : (0 : Int) ≤ (p : Int) := by omega
    have hpn : (p : Int) < (n : Int) := by omega
    clear hcs e1 e3 e4 e5
    by_cases hy : y.b = (kc : Int)
    rotate_left
    · have hyb : (y.b != (kc : Int)) = true := by simpa using hy
      have HVF : Hid (v = false) := by
        unfold Hid; rw [← HV.out, decide_eq_false_iff_not]
        intro h; have := E5.out; rw [h] at this; simp at this; exact hy this.symm
      clear hy
      go_enter Tryz.func53, Tryz.ntmps53
      go_wp2_with fail
      rw [← HW0.out]
      refine HPA.out.mono ?_
      rintro e w1 ⟨v1, rfl, own1, b1⟩
      obtain ⟨A1, c1, rfl⟩ := own_form own1
      obtain ⟨g1, rfl, _, _⟩ := own_addr0 own1 (by omega)
      have q0 := cell_step (by exact n0) b1
      have q2 := cell_step (by exact n2) b1
      have r0 := (sl_of_own own1).at (j := 0) (u := .int .i64 (p : Int)) (by rw [List.getElem?_map, E1.out]; rfl)
      obtain ⟨s0, s1, s2⟩ := (HS0.out.below' b1).rec3 E3.out
      have hm0 : (0 : Int) < (m : Int) := by omega
      clear own1
      go_wp2
      go_quiet (fail)
      go_wp2
      go_ret
      exact ⟨ret_bool HVF.out.symm, below_drewN (below_step HB0.out b1) _⟩
    · have hyb : (y.b != (kc : Int)) = false := by simpa using hy
      clear hy
      have HY : Hid ((ps.map (arAt xs))[0]? = some (kc : Int)) := by unfold Hid; rw [E5.out]; have : y.b = (kc : Int) := by simpa using hyb
                                                                     rw [this]
      go_enter Tryz.func53, Tryz.ntmps53
      go_wp2_with fail
      rw [← HW0.out]
      refine HPA.out.mono ?_
      rintro e w1 ⟨v1, rfl, own1, b1⟩
      obtain ⟨A1, c1, rfl⟩ := own_form own1
      obtain ⟨g1, rfl, _, _⟩ := own_addr0 own1 (by omega)
      have HSR := Lib.hid (sl_of_own own1)
      have HSX := Lib.hid (HS0.out.below' b1)
      have q0 := cell_step (by exact n0) b1
      have q1 := cell_step (by exact n1) b1
      have q2 := cell_step (by exact n2) b1
      have r0 := HSR.out.at (j := 0) (u := .int .i64 (p : Int)) (by rw [List.getElem?_map, E1.out]; rfl)
      obtain ⟨s0, s1, s2⟩ := HSX.out.rec3 E3.out
      have hm0 : (0 : Int) < (m : Int) := by omega
      have B1 := Lib.hid (below_step HB0.out b1)
      clear own1
      go_wp2
      go_quiet (fail)
      go_wp2
      go_loopw [7] (fun i wr => ∃ j : Nat, 1 ≤ j ∧ j ≤ m ∧ i = .int .i64 j ∧ Below w1.heap.size w1 wr ∧ Hid (∀ t, 1 ≤ t → t < j → (ps.map (arAt xs))[t]? = some xb)) (fun i _ => m - (intOf i).toNat)
      case atStart => exact ⟨1, Nat.le_refl _, by omega, rfl, below_drewN (Below.refl _ _) _, by intro t h1 h2; omega⟩
      case round =>
        obtain ⟨j, hj1, hjm, rfl, hB, HA⟩ := hrel
        clear s0 s1 s2 r0 hyb
        by_cases hjl : j < m
        · obtain ⟨pj, yj, e1, e2j, e3, e4, e5⟩ := HPL.out.at HL.out (j := j) hjl
          have F1 := Lib.hid e1; have F3 := Lib.hid e3; have F5 := Lib.hid e5
          have t1 := cell_step (by exact q1) hB
          have r1 := (HSR.out.below' hB).at (j := j) (u := .int .i64 (pj : Int)) (by rw [List.getElem?_map, F1.out]; rfl)
          rw [Nat.zero_add] at r1
          obtain ⟨u0, u1, u2⟩ := (HSX.out.below' hB).rec3 F3.out
          have hpj0 : (0 : Int) ≤ (pj : Int) := by omega
          have hpjn : (pj : Int) < (n : Int) := by omega
          have hj0 : (0 : Int) ≤ (j : Int) := by omega
          have hjm' : (j : Int) < (m : Int) := by omega
          clear e1 e3 e4 e5 q0 q1 q2
          by_cases hyj : yj.b = xb
          rotate_left
          · have hyb : (yj.b != xb) = true := by simpa using hyj
            have HVF : Hid (v = false) := by
              unfold Hid; rw [← HV.out, decide_eq_false_iff_not]
              intro h; have := F5.out; rw [h, rep_at hj1 (by omega)] at this; injection this with this; exact hyj this.symm
            clear hyj
            go_wp2
            go_quiet (fail)
            go_wp2
            go_ret
            exact ⟨ret_bool HVF.out.symm, by first | exact below_step B1.out (below_drewN hB _) | exact below_drewN (below_step B1.out hB) _⟩
          · have hyb : (yj.b != xb) = false := by simpa using hyj
            have HA2 : Hid (∀ t, 1 ≤ t → t < j + 1 → (ps.map (arAt xs))[t]? = some xb) := by
              intro t h1 h2
              by_cases ht : t = j
              · subst ht; rw [F5.out, hyj]
              · exact HA.out t h1 (by omega)
            clear hyj
            go_wp2
            go_quiet (fail)
            go_wp2
            go_roundw
            case rel => exact ⟨j + 1, by omega, by omega, by go_num, below_drewN hB _, HA2⟩
            case measure => simp [intOf]; omega
        · have HVT : Hid (v = true) := by
            unfold Hid; rw [← HV.out, decide_eq_true_iff]
            apply List.ext_getElem?
            intro t
            by_cases h0 : t = 0
            · subst h0; rw [HY.out]; rfl
            · by_cases ht : t < m
              · rw [HA.out t (by omega) (by omega), rep_at (by omega) (by omega)]
              · rw [List.getElem?_eq_none (by rw [List.length_map, HPL.out.len]; omega), List.getElem?_eq_none (by simp; omega)]
          go_wp2
          go_ret
          exact ⟨ret_bool HVT.out.symm, below_step B1.out hB⟩
  have e3 : (xa == 3) = false := by simpa using a3
  by_cases a4 : xa = 4
  · subst a4
    have hm2 : m = 2 := by rw [HM.out, fMany_4 rfl]
    subst hm2
    have HFO : Hid (fFols ⟨4, xb, xc⟩ = [xb - 1, xb + 1]) := fFols_4 rfl
    rw [HFO.out] at HV
    obtain ⟨p, y, e1, e2, e3', e4, e5⟩ := HPL.out.at HL.out (j := 0) (by omega)
    obtain ⟨p', y', f1, f2, f3, f4, f5⟩ := HPL.out.at HL.out (j := 1) (by omega)
    have E1 := Lib.hid e1; have E3 := Lib.hid e3'; have E5 := Lib.hid e5
    have F1 := Lib.hid f1; have F3 := Lib.hid f3; have F5 := Lib.hid f5
    have hp0 : (0 : Int) ≤ (p : Int) := by omega
    have hpn : (p : Int) < (n : Int) := by omega
    have hp0' : (0 : Int) ≤ (p' : Int) := by omega
    have hpn' : (p' : Int) < (n : Int) := by omega
    have HAS : Hid (ps.map (arAt xs) = [y.b, y'.b]) := by
      unfold Hid
      have hlen := HPL.out.len
      match ps, hlen, E5.out, F5.out with
      | [q1, q2], _, h1, h2 => simp at h1 h2; simp [h1, h2]
    rw [HAS.out] at HV
    have hb1 : 1 ≤ xb := by omega
    have hb3 : xb ≤ 3 := by omega
    have w1' : IntKind.i64.wrap (xb - 1) = xb - 1 := IntWalk.i64_in _ (by omega)
    have w2' : IntKind.i64.wrap (xb + 1) = xb + 1 := IntWalk.i64_in _ (by omega)
    clear hcs e1 e3' e4 e5 f1 f3 f4 f5 a3 e3
    by_cases hy : y.b = xb - 1
    rotate_left
    · have hyb : (y.b == xb - 1) = false := by simpa using hy
      have HVF : Hid (v = false) := by unfold Hid; rw [← HV.out, decide_eq_false_iff_not]; intro h; simp at h; exact hy h.1
      clear hy
      go_enter Tryz.func53, Tryz.ntmps53
      go_wp2_with fail
      rw [← HW0.out]
      refine HPA.out.mono ?_
      rintro e w1 ⟨v1, rfl, own1, b1⟩
      obtain ⟨A1, c1, rfl⟩ := own_form own1
      obtain ⟨g1, rfl, _, _⟩ := own_addr0 own1 (by omega)
      have q0 := cell_step (by exact n0) b1
      have q1 := cell_step (by exact n1) b1
      have r0 := (sl_of_own own1).at (j := 0) (u := .int .i64 (p : Int)) (by rw [List.getElem?_map, E1.out]; rfl)
      obtain ⟨s0, s1, s2⟩ := (HS0.out.below' b1).rec3 E3.out
      have r1 := (sl_of_own own1).at (j := 1) (u := .int .i64 (p' : Int)) (by rw [List.getElem?_map, F1.out]; rfl)
      obtain ⟨t0, t1, t2⟩ := (HS0.out.below' b1).rec3 F3.out
      clear own1
      go_wp2
      go_quiet (fail)
      go_wp2
      go_ret
      exact ⟨ret_bool HVF.out.symm, below_drewN (below_step HB0.out b1) _⟩
    · have hyb : (y.b == xb - 1) = true := by simpa using hy
      clear hy
      by_cases hy2 : y'.b = xb + 1
      rotate_left
      · have hyb2 : (y'.b == xb + 1) = false := by simpa using hy2
        have HVF : Hid (v = false) := by unfold Hid; rw [← HV.out, decide_eq_false_iff_not]; intro h; simp at h; exact hy2 h.2
        clear hy2
        go_enter Tryz.func53, Tryz.ntmps53
        go_wp2_with fail
        rw [← HW0.out]
        refine HPA.out.mono ?_
        rintro e w1 ⟨v1, rfl, own1, b1⟩
        obtain ⟨A1, c1, rfl⟩ := own_form own1
        obtain ⟨g1, rfl, _, _⟩ := own_addr0 own1 (by omega)
        have q0 := cell_step (by exact n0) b1
        have q1 := cell_step (by exact n1) b1
        have r0 := (sl_of_own own1).at (j := 0) (u := .int .i64 (p : Int)) (by rw [List.getElem?_map, E1.out]; rfl)
        obtain ⟨s0, s1, s2⟩ := (HS0.out.below' b1).rec3 E3.out
        have r1 := (sl_of_own own1).at (j := 1) (u := .int .i64 (p' : Int)) (by rw [List.getElem?_map, F1.out]; rfl)
        obtain ⟨t0, t1, t2⟩ := (HS0.out.below' b1).rec3 F3.out
        clear own1
        go_wp2
        go_quiet (fail)
        go_wp2
        go_ret
        exact ⟨ret_bool HVF.out.symm, below_drewN (below_step HB0.out b1) _⟩
      · have hyb2 : (y'.b == xb + 1) = true := by simpa using hy2
        have HVF : Hid (v = true) := by unfold Hid; rw [← HV.out, decide_eq_true_iff, hy2]; have : y.b = xb - 1 := by simpa using hyb
                                        rw [this]
        clear hy2
        go_enter Tryz.func53, Tryz.ntmps53
        go_wp2_with fail
        rw [← HW0.out]
        refine HPA.out.mono ?_
        rintro e w1 ⟨v1, rfl, own1, b1⟩
        obtain ⟨A1, c1, rfl⟩ := own_form own1
        obtain ⟨g1, rfl, _, _⟩ := own_addr0 own1 (by omega)
        have q0 := cell_step (by exact n0) b1
        have q1 := cell_step (by exact n1) b1
        have r0 := (sl_of_own own1).at (j := 0) (u := .int .i64 (p : Int)) (by rw [List.getElem?_map, E1.out]; rfl)
        obtain ⟨s0, s1, s2⟩ := (HS0.out.below' b1).rec3 E3.out
        have r1 := (sl_of_own own1).at (j := 1) (u := .int .i64 (p' : Int)) (by rw [List.getElem?_map, F1.out]; rfl)
        obtain ⟨t0, t1, t2⟩ := (HS0.out.below' b1).rec3 F3.out
        clear own1
        go_wp2
        go_quiet (fail)
        go_wp2
        go_ret
        exact ⟨ret_bool HVF.out.symm, below_drewN (below_step HB0.out b1) _⟩
  have e4 : (xa == 4) = false := by simpa using a4
  by_cases a5 : xa = 5
  · subst a5
    have hm1 : m = 1 := by rw [HM.out, fMany_5 rfl]
    subst hm1
    have HFO : Hid (fFols ⟨5, xb, xc⟩ = [xb + 1]) := fFols_5 rfl
    rw [HFO.out] at HV
    obtain ⟨p, y, e1, e2, e3', e4', e5⟩ := HPL.out.at HL.out (j := 0) (by omega)
    have E1 := Lib.hid e1; have E3 := Lib.hid e3'; have E5 := Lib.hid e5
    have hp0 : (0 : Int) ≤ (p : Int) := by omega
    have hpn : (p : Int) < (n : Int) := by omega
    have HAS : Hid (ps.map (arAt xs) = [y.b]) := by
      unfold Hid
      have hlen := HPL.out.len
      match ps, hlen, E5.out with
      | [q1], _, h1 => simp at h1; simp [h1]
    rw [HAS.out] at HV
    have hb1 : 0 ≤ xb := by omega
    have hb3 : xb ≤ 3 := by omega
    have w2' : IntKind.i64.wrap (xb + 1) = xb + 1 := IntWalk.i64_in _ (by omega)
    clear hcs e1 e3' e4' e5 a3 a4 e3 e4
    by_cases hy : y.b = xb + 1
    · have hyb : (y.b == xb + 1) = true := by simpa using hy
      have HVF : Hid (v = true) := by unfold Hid; rw [← HV.out, decide_eq_true_iff, hy]
      clear hy
      go_enter Tryz.func53, Tryz.ntmps53
      go_wp2_with fail
      rw [← HW0.out]
      refine HPA.out.mono ?_
      rintro e w1 ⟨v1, rfl, own1, b1⟩
      obtain ⟨A1, c1, rfl⟩ := own_form own1
      obtain ⟨g1, rfl, _, _⟩ := own_addr0 own1 (by omega)
      have q0 := cell_step (by exact n0) b1
      have q1 := cell_step (by exact n1) b1
      have r0 := (sl_of_own own1).at (j := 0) (u := .int .i64 (p : Int)) (by rw [List.getElem?_map, E1.out]; rfl)
      obtain ⟨s0, s1, s2⟩ := (HS0.out.below' b1).rec3 E3.out
      clear own1
      go_wp2
      go_quiet (fail)
      go_wp2
      go_ret
      exact ⟨ret_bool HVF.out.symm, below_drewN (below_step HB0.out b1) _⟩
    · have hyb : (y.b == xb + 1) = false := by simpa using hy
      have HVF : Hid (v = false) := by unfold Hid; rw [← HV.out, decide_eq_false_iff_not]; intro h; simp at h; exact hy h
      clear hy
      go_enter Tryz.func53, Tryz.ntmps53
      go_wp2_with fail
      rw [← HW0.out]
      refine HPA.out.mono ?_
      rintro e w1 ⟨v1, rfl, own1, b1⟩
      obtain ⟨A1, c1, rfl⟩ := own_form own1
      obtain ⟨g1, rfl, _, _⟩ := own_addr0 own1 (by omega)
      have q0 := cell_step (by exact n0) b1
      have q1 := cell_step (by exact n1) b1
      have r0 := (sl_of_own own1).at (j := 0) (u := .int .i64 (p : Int)) (by rw [List.getElem?_map, E1.out]; rfl)
      obtain ⟨s0, s1, s2⟩ := (HS0.out.below' b1).rec3 E3.out
      clear own1
      go_wp2
      go_quiet (fail)
      go_wp2
      go_ret
      exact ⟨ret_bool HVF.out.symm, below_drewN (below_step HB0.out b1) _⟩
  have e5 : (xa == 5) = false := by simpa using a5
  have hm0 : m = 0 := by rw [HM.out]; exact fMany_0 a3 a4 a5
  subst hm0
  have HVT : Hid (v = true) := by
    unfold Hid
    rw [← HV.out, decide_eq_true_iff, fFols_0 a3 a4 a5]
    have hlen := HPL.out.len
    rw [List.eq_nil_of_length_eq_zero hlen]; rfl
  clear hcs a3 a4 a5
  go_enter Tryz.func53, Tryz.ntmps53
  go_wp2_with fail
  rw [← HW0.out]
  refine HPA.out.mono ?_
  rintro e w1 ⟨v1, rfl, own1, b1⟩
  obtain ⟨A1, c1, rfl⟩ := own_form own1
  have q0 := cell_step (by exact n0) b1
  go_wp2
  go_ret
  exact ⟨ret_bool HVT.out.symm, below_step HB0.out b1⟩
end Go.Proofs.YtjggkgdojhlhpaaGreat

/- Recursive functions, the reference's side: l11Whole, l11Is. -/
namespace Go.Proofs.YtjggkgdojhlhpaaGreat
open Go.RowKit
set_option linter.all false

theorem fit_suffix {α : Type} {fol : α → Nat} : ∀ {l : List α} {op k : Nat}, fit fol op l = true → k ≤ l.length → ∃ op', fit fol op' (l.drop k) = true
  | l, op, 0, h, _ => ⟨op, by simpa using h⟩
  | [], op, k + 1, h, hk => by simp at hk
  | x :: l, 0, k + 1, h, _ => by rw [fit_0c] at h; cases h
  | x :: l, op + 1, k + 1, h, hk => by rw [fit_sc] at h; rw [List.drop_succ_cons]; exact fit_suffix h (by simpa using hk)
theorem fit_next {α : Type} {fol : α → Nat} {l : List α} {op k : Nat} {x : α} (h : fit fol op l = true) (hx : l[k]? = some x) : ∃ b, fit fol (fol x + b) (l.drop (k + 1)) = true := by
  obtain ⟨op', h1⟩ := fit_suffix h (Nat.le_of_lt (List.getElem?_eq_some_iff.1 hx).1)
  rw [drop_at hx] at h1
  cases op' with
  | zero => rw [fit_0c] at h1; cases h1
  | succ op' => rw [fit_sc] at h1; exact ⟨op', by rw [Nat.add_comm]; exact h1⟩
theorem end_flat {xs : List R3} {n : Nat} (hl : xs.length = n) (h1 : fit fMany 1 xs = true) (h2 : xs.all fOkN = true) {en : Int} {ok : Bool} (h : EndOk xs 0 en ok) : ok = true ∧ en = n := by
  have hp : tPosAt fMany 1 0 xs = (n : Int) := by have := fit_iff fMany xs 1 0; rw [h1, decide_eq_true_iff] at this; rw [this, hl, Nat.zero_add]
  unfold EndOk at h
  rw [List.drop_zero] at h
  rcases h with ⟨rfl, q, rfl, hq, _⟩ | ⟨rfl, hno⟩
  · exact ⟨rfl, by rw [hp] at hq; exact hq.symm⟩
  · have := hno n (by rw [hp, Nat.zero_add])
    rw [List.take_of_length_le (by rw [hl]; exact Nat.le_refl _), h2] at this; cases this
theorem end_not {xs : List R3} {n : Nat} (hl : xs.length = n) (h0 : ¬ (fit fMany 1 xs = true ∧ xs.all fOkN = true)) {en : Int} (h : EndOk xs 0 en true) : en ≠ n := by
  rintro rfl
  unfold EndOk at h
  rw [List.drop_zero] at h
  rcases h with ⟨_, q, e, hq, ha⟩ | ⟨h, _⟩
  · rw [Nat.zero_add] at e hq
    have : q = n := by omega
    subst this
    refine h0 ⟨?_, ?_⟩
    · rw [← fit_iff fMany xs 1 0, decide_eq_true_iff, hq, hl, Nat.zero_add]
    · rw [List.take_of_length_le (by rw [hl]; exact Nat.le_refl _)] at ha; exact ha
  · cases h

set_option maxRecDepth 100000 in
set_option maxHeartbeats 1000000 in
theorem l11Whole_is (A : Option Addr) (n c : Nat) (xs : List R3) (v : Bool) (hv : validF xs = v) (w : World) (ha : Args 3 w A n (rows R3.vs xs)) (hn : n ≤ 60) :
    Calls Tryz.prog 35 #[.slice A n c] w fun e w' => e = .returned (.bool v) ∧ Below w.heap.size w w' := by
  have HL : Hid (xs.length = n) := by have := ha.1; rw [rows_len R3.vs_len] at this; unfold Hid; omega
  by_cases hn0 : n = 0
  · have HV : Hid (false = v) := by
      unfold Hid; rw [← hv]; symm; rw [Bool.eq_false_iff]; intro h
      have := (validF_iff xs).1 h
      have := fit_ne fMany xs 0 this.2.1
      have := HL.out
      omega
    have e0 : ((n : Int) == 0) = true := by simp [hn0]
    clear hv hn0
    go_enter Tryz.func35, Tryz.ntmps35
    go_wp2
    go_ret
    exact ⟨ret_bool HV.out, Below.refl _ _⟩
  have e0 : ((n : Int) == 0) = false := by simp; omega
  have HE := Lib.hid (l11End_any A n c 0 0 rfl xs w ha (by omega) (Nat.zero_le _))
  by_cases hflat : fit fMany 1 xs = true ∧ xs.all fOkN = true
  rotate_left
  · have HV : Hid (false = v) := by
      unfold Hid; rw [← hv]; symm; rw [Bool.eq_false_iff]; intro h
      have := (validF_iff xs).1 h
      exact hflat ⟨this.2.1, this.2.2.1⟩
    have HFL := Lib.hid hflat
    clear hv hflat hn0
    go_enter Tryz.func35, Tryz.ntmps35
    go_wp2_with fail
    refine HE.out.mono ?_
    rintro e w1 ⟨⟨en, ok, rfl, hen⟩, b1⟩
    cases ok with
    | false =>
      clear hen
      go_wp2
      go_ret
      exact ⟨ret_bool HV.out, b1⟩
    | true =>
      have e1 : (en != (n : Int)) = true := by simpa using end_not HL.out HFL.out hen
      clear hen
      go_wp2
      go_ret
      exact ⟨ret_bool HV.out, b1⟩
  have HFIT := Lib.hid hflat.1
  have HOK := Lib.hid hflat.2
  have HVI := Lib.hid (validF_iff xs)
  have HV := Lib.hid hv
  clear hv hflat
  go_enter Tryz.func35, Tryz.ntmps35
  go_wp2_with fail
  refine HE.out.mono ?_
  rintro e w1 ⟨⟨en, ok, rfl, hen⟩, b1⟩
  obtain ⟨rfl, rfl⟩ := end_flat HL.out HFIT.out HOK.out hen
  have e1 : ((n : Int) != (n : Int)) = false := by simp
  clear hen
  go_wp2
  go_loopw [5] (fun i wr => ∃ k : Nat, k ≤ n ∧ i = .int .i64 k ∧ Below w.heap.size w wr ∧ Hid (∀ j, j < k → fFit xs j = true)) (fun i _ => n - (intOf i).toNat)
  case atStart => exact ⟨0, Nat.zero_le _, rfl, b1, by intro j hj; omega⟩
  case round =>
    obtain ⟨k, hk, rfl, hB, HA⟩ := hrel
    by_cases hlt : k < n
    · obtain ⟨b, off, rfl, hs⟩ := ha.sl hlt
      obtain ⟨x, HX⟩ := hget HL hlt
      obtain ⟨bb, hbb⟩ := fit_next HFIT.out HX.out
      have HBB := Lib.hid hbb
      clear hbb
      rcases Bool.eq_false_or_eq_true (fFit xs k) with hf | hf
      · have HA2 : Hid (∀ j, j < k + 1 → fFit xs j = true) := by
          intro j hj
          by_cases ej : j = k
          · subst ej; exact hf
          · exact HA.out j (by omega)
        have HF := Lib.hid hf
        clear hf
        go_wp2_with fail
        refine (l11Fits_is b off n c k xs x HX.out true HF.out HOK.out bb HBB.out _ (hs.below' hB) HL.out (by omega)).mono ?_
        rintro e w2 ⟨rfl, b2⟩
        go_wp2
        go_roundw
        case rel => exact ⟨k + 1, by omega, by go_num, below_step hB b2, HA2⟩
        case measure => simp [intOf]; omega
      · have HVF : Hid (false = v) := by
          unfold Hid; rw [← HV.out]; symm; rw [Bool.eq_false_iff]; intro h
          have := (HVI.out.1 h).2.2.2 k (by have := HL.out; omega)
          rw [hf] at this; cases this
        have HF := Lib.hid hf
        clear hf
        go_wp2_with fail
        refine (l11Fits_is b off n c k xs x HX.out false HF.out HOK.out bb HBB.out _ (hs.below' hB) HL.out (by omega)).mono ?_
        rintro e w2 ⟨rfl, b2⟩
        go_wp2
        go_ret
        exact ⟨ret_bool HVF.out, below_step hB b2⟩
    · have HVT : Hid (true = v) := by
        unfold Hid; rw [← HV.out]; symm
        have := HL.out
        exact HVI.out.2 ⟨by omega, HFIT.out, HOK.out, fun j hj => HA.out j (by omega)⟩
      go_wp2
      go_ret
      exact ⟨ret_bool HVT.out, hB⟩

theorem l11Is_is (A : Option Addr) (n c : Nat) (xs : List R3) (v : Bool) (hv : validF xs = v) (w : World) (ha : Args 3 w A n (rows R3.vs xs)) (hn : n ≤ 1048576) :
    Calls Tryz.prog 20 #[.slice A n c] w fun e w' => e = .returned (.bool v) ∧ Below w.heap.size w w' := by
  have HL : Hid (xs.length = n) := by have := ha.1; rw [rows_len R3.vs_len] at this; unfold Hid; omega
  by_cases h60 : n ≤ 60
  rotate_left
  · have HV : Hid (false = v) := by
      unfold Hid; rw [← hv]; symm; rw [Bool.eq_false_iff]; intro h
      have := (validF_iff xs).1 h
      have := HL.out
      omega
    clear hv
    go_enter Tryz.func20, Tryz.ntmps20
    go_wp2
    go_ret
    exact ⟨ret_bool HV.out, Below.refl _ _⟩
  have HV := Lib.hid hv
  clear hv
  go_enter Tryz.func20, Tryz.ntmps20
  go_wp2_with fail
  refine (l11Whole_is A n c xs v HV.out _ ha h60).mono ?_
  rintro e w1 ⟨rfl, b1⟩
  go_wp2
  go_ret
  exact ⟨rfl, b1⟩
end Go.Proofs.YtjggkgdojhlhpaaGreat

/- Contracts of the laws' helpers on []Loop: copy, compare, size, mark, look at the marks. For slices of at most 1048576 elements. -/
namespace Go.Proofs.YtjggkgdojhlhpaaGreat
open Go.RowKit
set_option linter.all false

theorem infoLoop : (Tryz.prog.info? 86).map (fun i => (i.zero, i.size, i.bytes)) = some (some (.agg #[.int .i64 0, .int .i64 0, .int .i64 0]), 3, 24) := by kernel_rfl

end Go.Proofs.YtjggkgdojhlhpaaGreat

/- 'append' of a whole slice onto a row of the call's own, with where the new row lies; rows that keep off it. Plain laws. -/
namespace Go.Proofs.YtjggkgdojhlhpaaGreat
open Go.RowKit
set_option linter.all false

theorem wpList_appy {P : Program} {w : World} {ops : Array Oper} {rest : List Oper} {o : Oper} {a : Act} {Q : Exit → Act → World → Prop} (hgd : o.guard = none) (s x : Operand) (t : TypeId)
    (ho : o.op = .call { callee := .builtin .append, args := #[s, x], argTypes := #[t, t] })
    {e : TypeId} {z : Value} {size bytes : Nat} (ht : P.underlying t = some (.slice e)) (hinfo : (P.info? e).map (fun i => (i.zero, i.size, i.bytes)) = some (some z, size, bytes)) (hzs : z.cells.size = size) (hsz : 0 < size)
    (base : Nat) {v : Value} {n : Nat} {xs : List Value} (hown : w.ownsRow base e size v n xs) (hbase : base ≤ w.heap.size) (hs : a.eval s = v)
    {u : Value} {m : Nat} {ys : List Value} (hsrc : Src size w u m ys) (hx : a.eval x = u) (h1 : ∀ u ∈ ys, u.oneCell' = true) (h63 : n + m ≤ maxLen) (hbytes : (n + m) * bytes ≤ 140737488355328)
    (h : ∀ v' w', w'.ownsRow base e size v' (n + m) (xs ++ ys) → w.grownBy w' v.ownBlock → (v'.ownBlock = v.ownBlock ∨ v'.ownBlock = some w.heap.size) → wpList P ops Q rest (a.put o.dst v') w') : wpList P ops Q (o :: rest) a w := by
  obtain ⟨i, hi, hz, hsize, hby⟩ := info_parts hinfo
  rcases hsrc.2 with ⟨rfl, rfl⟩ | ⟨b, off, c, rfl, hsl⟩
  · have hys : ys = [] := List.eq_nil_of_length_eq_zero (by simpa using hsrc.1)
    subst hys
    have hr := run_append_nothing (P := P) (w := w) base t o.type e i size ht hi v n xs hown 0
    refine wpList_plain hgd fun K hK => ?_
    unfold Oper.wp execOp
    simp only [ho, resolve, invoke, builtin, Sem.run_bind, Sem.run_pure, Result.andThen_ok, List.map_toArray, List.map_cons, List.map_nil, hs, hx, hr]
    exact hK _ _ (h v w (by simpa using hown) (World.grownBy.refl _ _) (.inl rfl))
  · refine wpList_append_own_at w hgd s x t ho base e i z size bytes ht hi hz hsize hby hzs hsz v n xs hs hown ⟨b, off, none⟩ m c ys hx hsrc.1 (fun j u hu => by rw [addr_add]; exact hsl.2 j u hu) h1 h63 hbytes hbase ?_
    intro v' w' h2 h3 _ h5
    exact h v' w' h2 h3 h5
/-- A row whose block lies below lo, or from hi on. -/
def OutB (lo hi : Nat) (v : Value) : Prop := ∀ k, v.ownBlock = some k → k < lo ∨ hi ≤ k
theorem OutB.low {w : World} {base lo hi : Nat} {e : TypeId} {size n : Nat} {v : Value} {xs : List Value} (h : w.ownsRow base e size v n xs) (hl : w.heap.size ≤ lo) : OutB lo hi v := fun k hk => .inl (Nat.lt_of_lt_of_le (h.lt k hk).2 hl)
theorem OutB.step {w : World} {lo hi : Nat} {v v' : Value} (h : OutB lo hi v) (hh : hi ≤ w.heap.size) (hl : v'.ownBlock = v.ownBlock ∨ v'.ownBlock = some w.heap.size) : OutB lo hi v' := by
  intro k hk
  rcases hl with hl | hl
  · exact h k (by rw [← hl]; exact hk)
  · rw [hl] at hk; injection hk with hk; exact .inr (hk ▸ hh)
theorem OutB.apart {w : World} {lo hi : Nat} {e : TypeId} {size n : Nat} {u v : Value} {xs : List Value} (h : OutB lo hi v) (own : w.ownsRow lo e size u n xs) (top : ∀ k, u.ownBlock = some k → k < hi) : u.ownBlock = none ∨ u.ownBlock ≠ v.ownBlock := by
  cases hu : u.ownBlock with
  | none => exact .inl rfl
  | some k =>
    refine .inr fun e2 => ?_
    have h1 := (own.lt k hu).1
    have h2 := top k hu
    rcases h k e2.symm with h3 | h3 <;> omega
end Go.Proofs.YtjggkgdojhlhpaaGreat

/- Loop programs of recursive functions, the reference's side: words, the kinds 0, 1, 2. -/
namespace Go.Proofs.YtjggkgdojhlhpaaGreat
open Go.RowKit
set_option linter.all false

def part3 (T : List R3) (k m : Nat) : List R3 := (T.drop k).take m
theorem part3_cons {T : List R3} {k m : Nat} {x : R3} (hx : T[k]? = some x) : part3 T k (m + 1) = x :: part3 T (k + 1) m := by unfold part3; rw [drop_at hx, List.take_succ_cons]
theorem part3_take {T : List R3} {k m q : Nat} (h : q ≤ m) : (part3 T k m).take q = part3 T k q := by unfold part3; rw [List.take_take, Nat.min_eq_left h]
theorem part3_drop {T : List R3} {k m q : Nat} : (part3 T k m).drop q = part3 T (k + q) (m - q) := by unfold part3; rw [List.drop_take, List.drop_drop]
theorem part3_len {T : List R3} {k m : Nat} (h : k + m ≤ T.length) : (part3 T k m).length = m := by unfold part3; rw [List.length_take, List.length_drop]; omega
theorem tPosAt_ext {α : Type} (fol : α → Nat) (l : List α) : ∀ a k q m : Nat, tPosAt fol a k (l.take m) = ((k + q : Nat) : Int) → tPosAt fol a k l = ((k + q : Nat) : Int) := by
  induction l with
  | nil => intro a k q m h; rw [List.take_nil] at h; exact h
  | cons x l ih =>
    intro a k q m h
    cases a with
    | zero => rw [tPosAt_zero] at h ⊢; exact h
    | succ a =>
      cases m with
      | zero => rw [List.take_zero, tPosAt_none] at h; omega
      | succ m =>
        rw [List.take_succ_cons, tPosAt_succ] at h
        rw [tPosAt_succ]
        have hq : 1 ≤ q := by
          rcases tPosAt_shift fol (l.take m) (a + fol x) (k + 1) 0 with ⟨h1, _⟩ | ⟨q', h1, _⟩
          · rw [h1] at h; omega
          · rw [h1] at h; omega
        obtain ⟨q', rfl⟩ : ∃ q', q = q' + 1 := ⟨q - 1, by omega⟩
        rw [ih _ (k + 1) q' m (by rw [h]; congr 1; omega)]
        congr 1; omega
theorem poss_cut (T : List R3) : ∀ (st : List Int) (k m : Nat), k + m ≤ T.length → fRun st (part3 T k m) = some [] → ∀ (i : Nat), i < st.length → ∃ p len, (poss st.length k (T.drop k))[i]? = some p ∧ (cut st.length (part3 T k m))[i]? = some (part3 T p len) ∧ p + len ≤ k + m ∧ k ≤ p := by
  intro st
  induction st with
  | nil => intro k m _ _ i hi; simp at hi
  | cons a st ih =>
    intro k m hk h i hi
    obtain ⟨h1, h2, h3, h4, h5, h6⟩ := fRun_one h
    rw [part3_len hk] at h1
    have he : (tPosAt fMany 1 0 (T.drop k)).toNat = endL (part3 T k m) := by
      have := tPosAt_ext fMany (T.drop k) 1 0 (endL (part3 T k m)) m (by rw [Nat.zero_add]; exact h3)
      rw [this, Nat.zero_add]; simp
    rw [List.length_cons, poss, cut, he, List.drop_drop]
    rw [part3_drop] at h6
    cases i with
    | zero => exact ⟨k, endL (part3 T k m), rfl, by rw [List.getElem?_cons_zero, part3_take h1], by omega, Nat.le_refl _⟩
    | succ i =>
      rw [List.getElem?_cons_succ, List.getElem?_cons_succ, part3_drop]
      obtain ⟨p, len, g1, g2, g3, g4⟩ := ih (k + endL (part3 T k m)) (m - endL (part3 T k m)) (by omega) h6 i (by simpa using hi)
      exact ⟨p, len, g1, g2, by omega, by omega⟩

/-- What a way to the loop program gives. -/
def LpOk (w : World) (cs : List R3) (e : Ending) (w' : World) : Prop := (∃ v, e = .returned v ∧ w'.ownsRow w.heap.size 86 3 v cs.length (rows R3.vs cs)) ∧ Below w.heap.size w w'
theorem one_rows_R3 (xs : List R3) : ∀ u ∈ rows R3.vs xs, u.oneCell' = true := by
  intro u hu
  simp only [rows, List.mem_flatMap, R3.vs] at hu
  obtain ⟨x, _, hu⟩ := hu
  simp at hu
  rcases hu with rfl | rfl | rfl <;> rfl
/-- The induction of the reference's way. -/
def LpIH (b off n c : Nat) (T : List R3) (N : Nat) : Prop := ∀ (k m : Nat) (kk : Int) (A : Option Addr) (na ca : Nat) (xs : List Int) (out v : Int) (w : World), kk = (k : Int) → m ≤ N → k + m ≤ n → Sl w b off (rows R3.vs T) → Src 1 w (.slice A na ca) na (xs.map (Value.int .i64)) → na ≤ ca → na ≤ 10 →
  fRun [(xs.length : Int)] (part3 T k m) = some [] → 0 ≤ v → v + 4 * m ≤ 1000 → Calls Tryz.prog 72 #[.slice (some ⟨b, off, none⟩) n c, .int .i64 kk, .slice A na ca, .int .i64 out, .int .i64 v] w (LpOk w (lpF N (part3 T k m) xs out v))
/-- A function's nodes, valid as a whole. -/
structure FAll (T : List R3) (n : Nat) : Prop where
  len : T.length = n
  le : n ≤ 60
  ok : T.all fOkN = true
  fits : fit fMany 1 T = true

/-- Behind l11Parts: the box of the node, the places of the parts. -/
structure FSt (w0 : World) (bx g : Nat) (x : R3) (ps : List Nat) (w1 : World) : Prop where
  c0 : w1.cell? ⟨bx, 0, none⟩ = some (.int .i64 x.a)
  c1 : w1.cell? ⟨bx, 1, none⟩ = some (.int .i64 x.b)
  c2 : w1.cell? ⟨bx, 2, none⟩ = some (.int .i64 x.c)
  row : Sl w1 g 0 (ps.map fun p : Nat => Value.int .i64 p)
theorem FSt.below {w0 w1 w2 : World} {bx g : Nat} {x : R3} {ps : List Nat} (h : FSt w0 bx g x ps w1) (hb : Below w1.heap.size w1 w2) : FSt w0 bx g x ps w2 :=
  ⟨cell_step h.c0 hb, cell_step h.c1 hb, cell_step h.c2 hb, h.row.below' hb⟩
theorem FSt.at {w0 w1 : World} {bx g : Nat} {x : R3} {ps : List Nat} (h : FSt w0 bx g x ps w1) {j p : Nat} (hp : ps[j]? = some p) : w1.cell? ⟨g, j, none⟩ = some (.int .i64 (p : Int)) := by
  have := h.row.at (j := j) (u := .int .i64 (p : Int)) (by rw [List.getElem?_map, hp]; rfl)
  rw [Nat.zero_add] at this; exact this

set_option maxRecDepth 100000 in
set_option maxHeartbeats 1000000 in
theorem l17Simple_any (b off n c : Nat) (T : List R3) (hT : FAll T n) (N k m : Nat) (x : R3) (hx : T[k]? = some x) (A : Option Addr) (na ca : Nat) (xs : List Int) (out v : Int) (w : World) (hs : Sl w b off (rows R3.vs T)) (ha : Arg w A na (xs.map (Value.int .i64)))
    (hb : x.b = (xs.length : Int)) (hok : fOkN x = true) (hk : x.a = 0 ∨ x.a = 1 ∨ x.a = 2) (l : List R3) :
    Calls Tryz.prog 72 #[.slice (some ⟨b, off, none⟩) n c, .int .i64 k, .slice A na ca, .int .i64 out, .int .i64 v] w (LpOk w (lpF (N + 1) (x :: l) xs out v)) := by
  have HL := Lib.hid hT.len
  have HX := Lib.hid hx
  have hn60 := hT.le
  have hlt : k < n := by have := (List.getElem?_eq_some_iff.1 hx).1; have := hT.len; omega
  have hna : xs.length = na := by have := ha.1; simpa using this
  have HNA := Lib.hid hna
  have hcs := (fOkN_iff x).1 hok
  obtain ⟨bb, hbb⟩ := fit_next hT.fits hx
  obtain ⟨p0, p1, p2⟩ := hs.rec3 HX.out
  obtain ⟨w0, HW0, B0, y0⟩ := al1 w (.cells #[.int .i64 x.a, .int .i64 x.b, .int .i64 x.c] 35)
  have n0 : w0.cell? ⟨w.heap.size, 0, none⟩ = some (.int .i64 x.a) := by rw [cell_of_heap y0]; rfl
  have n2 : w0.cell? ⟨w.heap.size, 2, none⟩ = some (.int .i64 x.c) := by rw [cell_of_heap y0]; rfl
  have HPA := Lib.hid (l11Parts_any (some ⟨b, off, none⟩) n c k bb k rfl T x hx hT.ok hbb w0 (Args.of_sl (hs.below' B0) (by rw [rows_len R3.vs_len, HL.out])) (by omega))
  have HB0 := Lib.hid B0
  have hk0 : (0 : Int) ≤ (k : Int) := by omega
  have hkn : (k : Int) < (n : Int) := by omega
  rcases hk with h0 | h0 | h0
  · have HR := Lib.hid (lp0 (N := N) (l := l) (xs := xs) (out := out) (v := v) h0)
    have e0 : (x.a == 0) = true := by rw [h0]; rfl
    clear hx hok hb hcs hbb h0 hT hna y0 B0
    go_enter Tryz.func72, Tryz.ntmps72
    go_wp2_with fail
    rw [← HW0.out]
    refine HPA.out.mono ?_
    rintro e w1 ⟨v1, rfl, own1, b1⟩
    obtain ⟨A1, c1, rfl⟩ := own_form own1
    have q0 := cell_step (by exact n0) b1
    have B1 := below_step HB0.out b1
    clear own1 b1 p0 p1 p2
    go_wp2
    go_ret
    rw [HR.out]
    exact ⟨⟨_, rfl, own_base (own_laid w1 86 3 1 #[.int .i64 0, .int .i64 out, .int .i64 0] rfl (by simp [maxLen])) B1.size⟩, below_step B1 (laid_below _ _)⟩
  · have HR := Lib.hid (lp1 (N := N) (l := l) (xs := xs) (out := out) (v := v) h0)
    have e0 : (x.a == 0) = false := by rw [h0]; rfl
    have e1 : (x.a == 1) = true := by rw [h0]; rfl
    have hna1 : 0 < na := by omega
    obtain ⟨ba, offa, rfl, hsa⟩ := ha.sl hna1
    obtain ⟨z, HZ, hz⟩ := map_at (Value.int .i64) xs (k := 0) (by omega)
    have HG : Hid (xs.getD 0 0 = z) := getD_at HZ.out
    have ha1 : (0 : Int) < (na : Int) := by omega
    clear hx hok hb hcs hbb h0 hT hna y0 B0
    go_enter Tryz.func72, Tryz.ntmps72
    go_wp2_with fail
    rw [← HW0.out]
    refine HPA.out.mono ?_
    rintro e w1 ⟨v1, rfl, own1, b1⟩
    obtain ⟨A1, c1, rfl⟩ := own_form own1
    have q0 := cell_step (by exact n0) b1
    have B1 := below_step HB0.out b1
    have r0 := (hsa.below' B1).at hz
    rw [Nat.add_zero] at r0
    clear own1 b1 p0 p1 p2 hz
    go_wp2
    go_ret
    rw [HR.out, HG.out]
    exact ⟨⟨_, rfl, own_base (own_laid w1 86 3 2 #[.int .i64 2, .int .i64 out, .int .i64 z, .int .i64 1, .int .i64 out, .int .i64 0] rfl (by simp [maxLen])) B1.size⟩, below_step B1 (laid_below _ _)⟩
  · have HR := Lib.hid (lp2 (N := N) (l := l) (xs := xs) (out := out) (v := v) h0)
    have e0 : (x.a == 0) = false := by rw [h0]; rfl
    have e1 : (x.a == 1) = false := by rw [h0]; rfl
    have e2 : (x.a == 2) = true := by rw [h0]; rfl
    obtain ⟨ic, hic⟩ : ∃ ic : Nat, x.c = (ic : Int) := ⟨x.c.toNat, by omega⟩
    have hna1 : ic < na := by omega
    obtain ⟨ba, offa, rfl, hsa⟩ := ha.sl hna1
    obtain ⟨z, HZ, hz⟩ := map_at (Value.int .i64) xs (k := ic) (by omega)
    have HG : Hid (xs.getD x.c.toNat 0 = z) := by unfold Hid; rw [hic, Int.toNat_natCast]; exact getD_at HZ.out
    have ha0 : (0 : Int) ≤ (ic : Int) := by omega
    have ha1 : (ic : Int) < (na : Int) := by omega
    rw [hic] at n2 HW0 p2
    clear hx hok hb hcs hbb h0 hT hna y0 B0 hic
    go_enter Tryz.func72, Tryz.ntmps72
    go_wp2_with fail
    rw [← HW0.out]
    refine HPA.out.mono ?_
    rintro e w1 ⟨v1, rfl, own1, b1⟩
    obtain ⟨A1, c1, rfl⟩ := own_form own1
    have q0 := cell_step (by exact n0) b1
    have q2 := cell_step (by exact n2) b1
    have B1 := below_step HB0.out b1
    have r0 := (hsa.below' B1).at hz
    clear own1 b1 p0 p1 p2 hz
    go_wp2
    go_ret
    rw [HR.out, HG.out]
    exact ⟨⟨_, rfl, own_base (own_laid w1 86 3 1 #[.int .i64 2, .int .i64 out, .int .i64 z] rfl (by simp [maxLen])) B1.size⟩, below_step B1 (laid_below _ _)⟩
end Go.Proofs.YtjggkgdojhlhpaaGreat

/- The builtin copy on rows of records; the row behind it is a variable's. Plain laws. -/
namespace Go.Proofs.YtjggkgdojhlhpaaGreat
open Go.RowKit
set_option linter.all false

section
variable {P : Program}
theorem run_copy_rows (w : World) (dT sT ty elem : TypeId) (g o dLen dCap : Nat) (a : Addr) (sLen sCap s m : Nat) (cur : Array Value) (t : TypeId) (cs : List Value)
    (hu : P.underlying dT = some (.slice elem)) (hs : (P.info? elem).map (·.size) = some s)
    (hg : w.heap[g]? = some (.cells cur t (0, 0))) (hm : Nat.min sLen dLen = m) (hn : cs.length = m * s)
    (hsrc : ∀ j v, cs[j]? = some v → w.cell? (a.add j) = some v) (hfit : o + cs.length ≤ cur.size) (h1 : ∀ v ∈ cs, v.oneCell' = true) :
    (Builtin.copy_ #[dT, sT] ty #[.slice (some ⟨g, o, none⟩) dLen dCap, .slice (some a) sLen sCap]).run P w =
      .ok (goInt m) (w.setRow g (cur.toList.take o ++ cs ++ cur.toList.drop (o + cs.length)).toArray) := by
  have hl := run_loadCells_list (P := P) w a cs hsrc
  have hst := run_storeCells_at P g o t cs 0 cur w hg (by simpa using hfit) h1
  cases hq : P.info? elem with
  | none => simp [hq] at hs
  | some i =>
    have hi : i.size = s := by simpa [hq] using hs
    simp [Builtin.copy_, run_underlying hu, Builtin.lenOf, Builtin.firstCells, sizeOf, typeInfo, hq, hi, hm, ← hn, hl, hst]
theorem wpList_copy_rows {w : World} {ops : Array Oper} {rest : List Oper} {o : Oper} {a : Act} {Q : Exit → Act → World → Prop} (hgd : o.guard = none) (d s : Operand) (dT sT : TypeId)
    (ho : o.op = .call { callee := .builtin .copy, args := #[d, s], argTypes := #[dT, sT] }) (elem : TypeId) (hu : P.underlying dT = some (.slice elem)) {z : Nat} (hsz : (P.info? elem).map (·.size) = some z)
    (g off dLen dCap : Nat) (ad : Addr) (sLen sCap : Nat) (hd : a.eval d = .slice (some ⟨g, off, none⟩) dLen dCap) (hs : a.eval s = .slice (some ad) sLen sCap)
    (cur : List Value) (t : TypeId) (hg : w.heap[g]? = some (.cells cur.toArray t (0, 0))) (m : Nat) (hm : Nat.min sLen dLen = m) (cs : List Value) (hn : cs.length = m * z)
    (hsrc : ∀ j v, cs[j]? = some v → w.cell? (ad.add j) = some v) (hfit : off + cs.length ≤ cur.length) (h1 : ∀ v ∈ cs, v.oneCell' = true) (B : Nat) (w0 : World) (hb : Below B w0 w) (hBg : B ≤ g)
    (h : ∀ w', Hid (w'.heap[g]? = some (.cells (cur.take off ++ cs ++ cur.drop (off + cs.length)).toArray t (0, 0))) → Below B w0 w' → wpList P ops Q rest (a.put o.dst (goInt m)) w') : wpList P ops Q (o :: rest) a w := by
  refine wpList_plain hgd fun K hK => ?_
  have hrun := run_copy_rows (P := P) w dT sT o.type elem g off dLen dCap ad sLen sCap z m cur.toArray t cs hu hsz hg hm hn hsrc (by simpa using hfit) h1
  unfold Oper.wp
  simp [execOp, ho, resolve, invoke, builtin, hd, hs, hrun, Result.andThen]
  refine hK _ _ (h _ ?_ (below_setRow hb hBg _))
  have := setRow_heap w g _ (cur.take off ++ (cs ++ cur.drop (off + cs.length))).toArray t _ hg
  simpa [Hid] using this
theorem step_copy_rows {w : World} {ops : Array Oper} {o : Oper} {a : Act} {K : Act → World → Prop} {Q : Exit → Act → World → Prop} {E : Prop} (hgd : o.guard = none) (d s : Operand) (dT sT : TypeId)
    (ho : o.op = .call { callee := .builtin .copy, args := #[d, s], argTypes := #[dT, sT] }) (elem : TypeId) (hu : P.underlying dT = some (.slice elem)) {z : Nat} (hsz : (P.info? elem).map (·.size) = some z)
    (g off dLen dCap : Nat) (ad : Addr) (sLen sCap : Nat) (hd : a.eval d = .slice (some ⟨g, off, none⟩) dLen dCap) (hs : a.eval s = .slice (some ad) sLen sCap)
    (cur : List Value) (t : TypeId) (hg : w.heap[g]? = some (.cells cur.toArray t (0, 0))) (m : Nat) (hm : Nat.min sLen dLen = m) (cs : List Value) (hn : cs.length = m * z)
    (hsrc : ∀ j v, cs[j]? = some v → w.cell? (ad.add j) = some v) (hfit : off + cs.length ≤ cur.length) (h1 : ∀ v ∈ cs, v.oneCell' = true) (B : Nat) (w0 : World) (hb : Below B w0 w) (hBg : B ≤ g)
    (h : ∀ w', Hid (w'.heap[g]? = some (.cells (cur.take off ++ cs ++ cur.drop (off + cs.length)).toArray t (0, 0))) → Below B w0 w' → K (a.put o.dst (goInt m)) w') :
    if Region.wanted o (yielded ops a.tmps) = true then Oper.wp P o a w K Q else E := by
  have hw : Region.wanted o (yielded ops a.tmps) = true := by simp [Region.wanted, hgd]
  rw [if_pos hw]
  have hrun := run_copy_rows (P := P) w dT sT o.type elem g off dLen dCap ad sLen sCap z m cur.toArray t cs hu hsz hg hm hn hsrc (by simpa using hfit) h1
  unfold Oper.wp
  simp [execOp, ho, resolve, invoke, builtin, hd, hs, hrun, Result.andThen]
  refine h _ ?_ (below_setRow hb hBg _)
  have := setRow_heap w g _ (cur.take off ++ (cs ++ cur.drop (off + cs.length))).toArray t _ hg
  simpa [Hid] using this
end
/-- 'x[l:]': one address, whether room is left or not. -/
theorem run_slice_tailR {P : Program} (t e : TypeId) {z : Value} {s bytes : Nat} (ht : P.underlying t = some (.slice e)) (hinfo : (P.info? e).map (fun i => (i.zero, i.size, i.bytes)) = some (some z, s, bytes))
    (b off n c l : Nat) (i : Int) (hi : i = l) (hh : l ≤ n) (hc : n ≤ c) :
    ∃ o', (n - l = 0 ∨ o' = off + l * s) ∧ ∀ W, (Instr.slice t (.slice (some ⟨b, off, none⟩) n c) (some (.int .i64 i)) none none).run P W = .ok (.slice (some ⟨b, o', none⟩) (n - l) (c - l)) W := by
  obtain ⟨ti, hti, hz, hsize, hb⟩ := info_parts hinfo
  have he : P.elem t = e := by simp [Program.elem, ht]
  refine ⟨if c = l then off else off + l * s, ?_, fun W => ?_⟩
  · by_cases h0 : c = l
    · exact .inl (by omega)
    · exact .inr (by rw [if_neg h0])
  · rw [run_slice_l W t (some ⟨b, off, none⟩) n c (by rw [he]; exact ht) .i64 i (by omega) (by omega)]
    subst hi
    have hsz : ∀ W, (sizeOf (P.elem t)).run P W = .ok s W := by intro W; rw [he]; simp [sizeOf, typeInfo, hti, hsize]
    rw [hsz]
    simp only [Result.andThen, sliced, Int.toNat_natCast]
    by_cases h0 : c = l
    · simp [h0]
    · simp only [if_neg h0, Option.map_some]
      rw [addr_add]

/-- A row known by its block is owned. -/
theorem own_of_block {w : World} {base g n cap : Nat} {t : TypeId} {s : Nat} {xs : List Value} (h : w.heap[g]? = some (.cells xs.toArray t (0, 0))) (hb : base ≤ g) (hs : xs.length = cap * s) (hn : n ≤ cap) (hm : cap ≤ maxLen) : w.ownsRow base t s (.slice (some ⟨g, 0, none⟩) n cap) n (xs.take (n * s)) := by
  refine ⟨?_, .inr ⟨g, cap, xs.toArray, rfl, hb, h, hn, hm, by simpa using hs, by simp⟩⟩
  rw [List.length_take, hs]
  have : n * s ≤ cap * s := Nat.mul_le_mul_right _ hn
  omega
theorem made_zero2 (m : Nat) : madeCells (Value.cells (.agg #[.int .i64 0, .int .i64 0])) (m * 2) = (rows R2.vs (List.replicate m (⟨0, 0⟩ : R2))).toArray := by
  apply Array.ext
  · rw [size_madeCells]; simp [rows_len R2.vs_len]
  · intro i h1 h2
    have hi : i < m * 2 := by rw [size_madeCells] at h1; exact h1
    have e1 : (madeCells (Value.cells (.agg #[.int .i64 0, .int .i64 0])) (m * 2))[i] = .int .i64 0 := by
      have hm : i % 2 = 0 ∨ i % 2 = 1 := by omega
      rcases hm with hm | hm <;> simp [madeCells, Value.cells, hm]
    have e2 : (rows R2.vs (List.replicate m (⟨0, 0⟩ : R2)))[i]? = some (.int .i64 0) := by
      have hq : i / 2 < m := by omega
      have hx : (List.replicate m (⟨0, 0⟩ : R2))[i / 2]? = some ⟨0, 0⟩ := by simp [hq]
      have hr := rows_at R2.vs_len hx (j := i % 2) (by omega)
      rw [show i / 2 * 2 + i % 2 = i by omega] at hr
      rw [hr]
      have hm : i % 2 = 0 ∨ i % 2 = 1 := by omega
      rcases hm with hm | hm <;> simp [R2.vs, hm]
    rw [e1]
    simp only [List.getElem_toArray]
    have := List.getElem?_eq_some_iff.1 e2
    exact this.2.symm
end Go.Proofs.YtjggkgdojhlhpaaGreat

/- Loop programs of recursive functions, the reference's side: the kind 4. -/
namespace Go.Proofs.YtjggkgdojhlhpaaGreat
open Go.RowKit
set_option linter.all false

theorem sl_tail {w : World} {ba offa o' : Nat} {xs : List Int} {na : Nat} (h : Sl w ba offa (xs.map (Value.int .i64))) (hl : xs.length = na) (ho : na - 1 = 0 ∨ o' = offa + 1 * 1) : Sl w ba o' ((xs.drop 1).map (Value.int .i64)) := by
  refine ⟨h.1, fun j u hu => ?_⟩
  have hj : j < na - 1 := by have := (List.getElem?_eq_some_iff.1 hu).1; rw [List.length_map, List.length_drop, hl] at this; exact this
  have ho2 : o' = offa + 1 := by rcases ho with h0 | h0 <;> omega
  subst ho2
  have := h.at (j := j + 1) (u := u) (by rw [List.getElem?_map] at hu ⊢; rw [List.getElem?_drop] at hu; rw [← hu, Nat.add_comm])
  rw [show offa + 1 + j = offa + (j + 1) by omega]
  exact this
theorem own_capL {w : World} {base : Nat} {e : TypeId} {size n : Nat} {v : Value} {xs : List Value} (h : w.ownsRow base e size v n xs) : ∀ A c, v = .slice A n c → n ≤ c := by
  intro A c hv
  rcases h.2 with ⟨h0, h1⟩ | ⟨g, cap, cur, h0, _, _, h1, _⟩
  · omega
  · rw [h0] at hv; injection hv with _ _ h3; omega
theorem own_laid' {w w1 : World} {e : TypeId} {s n : Nat} {cs : Array Value} (hw : w1 = w.alloc (.cells cs e)) (h : cs.size = n * s) (hm : n ≤ maxLen) : w1.ownsRow w.heap.size e s (.slice (some ⟨w.heap.size, 0, none⟩) n n) n cs.toList := by rw [hw]; exact own_laid w e s n cs h hm
theorem one_app {xs ys : List Value} (h : ∀ u ∈ xs, u.oneCell' = true) (k : ∀ u ∈ ys, u.oneCell' = true) : ∀ u ∈ xs ++ ys, u.oneCell' = true := by
  intro u hu; rcases List.mem_append.1 hu with h1 | h1
  · exact h u h1
  · exact k u h1
theorem one_of_all {xs : List Value} (h : xs.all (fun u => u.oneCell') = true) : ∀ u ∈ xs, u.oneCell' = true := fun u hu => List.all_eq_true.1 h u hu
/-- A part of a function, where it begins and what it is. -/
theorem part_of {T : List R3} {x : R3} {l : List R3} {ps : List Nat} {k m : Nat} (hok : fOkN x = true) (hrun : fRun (fFols x) l = some []) (hl : l = part3 T (k + 1) m)
    (hpc : ∀ i, i < fMany x → ∃ p len, ps[i]? = some p ∧ (cut (fMany x) l)[i]? = some (part3 T p len) ∧ p + len ≤ k + 1 + m ∧ k + 1 ≤ p) {i : Nat} {a : Int} (ha : (fFols x)[i]? = some a) :
    ∃ p len, Hid (ps[i]? = some p) ∧ (cut (fMany x) l).getD i [] = part3 T p len ∧ p + len ≤ k + 1 + m ∧ k + 1 ≤ p ∧ len ≤ m ∧ fRun [a] (part3 T p len) = some [] ∧ 0 < len := by
  have hi : i < fMany x := by rw [← fFols_len hok]; exact (List.getElem?_eq_some_iff.1 ha).1
  obtain ⟨p, len, h1, h2, h3, h4⟩ := hpc i hi
  obtain ⟨q, g1, g2, g3, _⟩ := part_at hok hrun ha
  rw [h2] at g1
  injection g1 with g1
  subst g1
  refine ⟨p, len, h1, g2, h3, h4, by omega, g3, ?_⟩
  rcases Nat.eq_zero_or_pos len with h0 | h0
  · subst h0; rw [part3, List.take_zero, fRun_none] at g3; cases g3
  · exact h0

set_option maxRecDepth 100000 in
set_option maxHeartbeats 4000000 in
theorem l17Rep_any (b off n c : Nat) (T : List R3) (hT : FAll T n) (N k m : Nat) (IH : Hid (LpIH b off n c T N)) (hmN : m ≤ N) (hkm : k + (m + 1) ≤ n) (x : R3) (hx : T[k]? = some x) (A : Option Addr) (na ca : Nat) (xs : List Int) (out v : Int) (w : World) (hs : Sl w b off (rows R3.vs T)) (hsr : Src 1 w (.slice A na ca) na (xs.map (Value.int .i64))) (hca : na ≤ ca) (hna10 : na ≤ 10)
    (hb : x.b = (xs.length : Int)) (hok : fOkN x = true) (l : List R3) (hl : l = part3 T (k + 1) m) (hrun : fRun (fFols x) l = some []) (hv0 : 0 ≤ v) (hv : v + 4 * ((m : Int) + 1) ≤ 1000) (h4 : x.a = 4) :
    Calls Tryz.prog 72 #[.slice (some ⟨b, off, none⟩) n c, .int .i64 k, .slice A na ca, .int .i64 out, .int .i64 v] w (LpOk w (lpF (N + 1) (x :: l) xs out v)) := by
  have ha := hsr.arg
  have HL := Lib.hid hT.len
  have HX := Lib.hid hx
  have hn60 := hT.le
  have hlt : k < n := by have := (List.getElem?_eq_some_iff.1 hx).1; have := hT.len; omega
  have hna : xs.length = na := by have := ha.1; simpa using this
  have HNA := Lib.hid hna
  have hcs := (fOkN_iff x).1 hok
  obtain ⟨bb, hbb⟩ := fit_next hT.fits hx
  obtain ⟨p0, p1, p2⟩ := hs.rec3 HX.out
  obtain ⟨w0, HW0, B0, y0⟩ := al1 w (.cells #[.int .i64 x.a, .int .i64 x.b, .int .i64 x.c] 35)
  have n0 : w0.cell? ⟨w.heap.size, 0, none⟩ = some (.int .i64 x.a) := by rw [cell_of_heap y0]; rfl
  have n1 : w0.cell? ⟨w.heap.size, 1, none⟩ = some (.int .i64 x.b) := by rw [cell_of_heap y0]; rfl
  have n2 : w0.cell? ⟨w.heap.size, 2, none⟩ = some (.int .i64 x.c) := by rw [cell_of_heap y0]; rfl
  have HPA := Lib.hid (l11Parts_any (some ⟨b, off, none⟩) n c k bb k rfl T x hx hT.ok hbb w0 (Args.of_sl (hs.below' B0) (by rw [rows_len R3.vs_len, HL.out])) (by omega))
  have HB0 := Lib.hid B0
  have hk0 : (0 : Int) ≤ (k : Int) := by omega
  have hkn : (k : Int) < (n : Int) := by omega
  have hpc := poss_cut T (fFols x) (k + 1) m (by rw [hT.len]; omega) (by rw [← hl]; exact hrun)
  rw [fFols_len hok, ← hl] at hpc
  obtain ⟨ps, hps⟩ : ∃ ps, ps = poss (fMany x) (k + 1) (T.drop (k + 1)) := ⟨_, rfl⟩
  rw [← hps] at hpc HPA
  have HPS : Hid (ps.length = fMany x) := by unfold Hid; rw [hps, poss_len]
  have hff := fFols_4 h4
  obtain ⟨q0, len0, Q0, c0, i0, j0, k0', R0, l0⟩ := part_of (i := 0) (a := x.b - 1) hok hrun hl hpc (by rw [hff]; rfl)
  obtain ⟨q1, len1, Q1, c1, i1, j1, k1', R1, l1⟩ := part_of (i := 1) (a := x.b + 1) hok hrun hl hpc (by rw [hff]; rfl)
  have HR := Lib.hid (lp4 (N := N) (xs := xs) (out := out) (v := v) h4 c0 c1)
  have hm2 := fMany_4 h4
  rw [hm2] at HPA HPS
  have e0 : (x.a == 0) = false := by rw [h4]; rfl
  have e1 : (x.a == 1) = false := by rw [h4]; rfl
  have e2 : (x.a == 2) = false := by rw [h4]; rfl
  have e3 : (x.a == 3) = false := by rw [h4]; rfl
  have e4 : (x.a == 4) = true := by rw [h4]; rfl
  have hna1 : 0 < na := by omega
  obtain ⟨ba, offa, rfl, hsa⟩ := ha.sl hna1
  obtain ⟨z, HZ, hz⟩ := map_at (Value.int .i64) xs (k := 0) (by omega)
  have HG : Hid (xs.getD 0 0 = z) := getD_at HZ.out
  have hz' := Lib.hid hz
  obtain ⟨o', ho', hsl⟩ := run_slice_tailR (P := Tryz.prog) 23 2 Tryz.underlying23 infoInt64S ba offa na ca 1 1 rfl (by omega) hca
  obtain ⟨nt, hnt⟩ : ∃ nt, na - 1 = nt := ⟨_, rfl⟩
  obtain ⟨ct, hct⟩ : ∃ ct, ca - 1 = ct := ⟨_, rfl⟩
  rw [hnt, hct] at hsl
  rw [hnt] at ho'
  have HTL : Hid (Sl w ba o' ((xs.drop 1).map (Value.int .i64))) := sl_tail hsa hna (by rw [hnt]; exact ho')
  have HTN : Hid ((xs.drop 1).length = nt) := by unfold Hid; rw [List.length_drop, hna]; exact hnt
  have HIH0 : Hid (∀ W, Below w.heap.size w W → Calls Tryz.prog 72 #[.slice (some ⟨b, off, none⟩) n c, .int .i64 (q0 : Int), .slice (some ⟨ba, o', none⟩) nt ct, .int .i64 v, .int .i64 (v + 3)] W (LpOk W (lpF N (part3 T q0 len0) (xs.drop 1) v (v + 3)))) := fun W hW =>
    IH.out q0 len0 q0 _ nt ct (xs.drop 1) v (v + 3) W rfl (by omega) (by omega) (hs.below' hW) (Src.of_sl (HTL.out.below' hW) (by rw [List.length_map, HTN.out, Nat.mul_one])) (by omega) (by omega) (by rw [show (((xs.drop 1).length : Nat) : Int) = x.b - 1 by rw [HTN.out]; omega]; exact R0) (by omega) (by omega)
  have HIH1 : Hid (∀ W A1 c1, Below w.heap.size w W → Src 1 W (.slice A1 (2 + nt) c1) (2 + nt) (((v + 1) :: v :: xs.drop 1).map (Value.int .i64)) → 2 + nt ≤ c1 → Calls Tryz.prog 72 #[.slice (some ⟨b, off, none⟩) n c, .int .i64 (q1 : Int), .slice A1 (2 + nt) c1, .int .i64 (v + 2), .int .i64 (v + 3)] W (LpOk W (lpF N (part3 T q1 len1) ((v + 1) :: v :: xs.drop 1) (v + 2) (v + 3)))) := fun W A1 c1 hW hA1 hc1 =>
    IH.out q1 len1 q1 A1 (2 + nt) c1 _ (v + 2) (v + 3) W rfl (by omega) (by omega) (hs.below' hW) hA1 hc1 (by omega) (by rw [show ((((v + 1) :: v :: xs.drop 1).length : Nat) : Int) = x.b + 1 by simp only [List.length_cons, HTN.out]; omega]; exact R1) (by omega) (by omega)
  have hL0 := lpF_len N (part3 T q0 len0) (xs.drop 1) v (v + 3)
  have hL1 := lpF_len N (part3 T q1 len1) ((v + 1) :: v :: xs.drop 1) (v + 2) (v + 3)
  rw [part3_len (T := T) (k := q0) (m := len0) (by rw [HL.out]; omega)] at hL0
  rw [part3_len (T := T) (k := q1) (m := len1) (by rw [HL.out]; omega)] at hL1
  obtain ⟨X0, hX0⟩ : ∃ X0, X0 = lpF N (part3 T q0 len0) (xs.drop 1) v (v + 3) := ⟨_, rfl⟩
  obtain ⟨X1, hX1⟩ : ∃ X1, X1 = lpF N (part3 T q1 len1) ((v + 1) :: v :: xs.drop 1) (v + 2) (v + 3) := ⟨_, rfl⟩
  rw [← hX0] at HIH0 hL0 HR
  rw [← hX1] at HIH1 hL1 HR
  obtain ⟨a0, ha0⟩ : ∃ a0, a0 = X0.length := ⟨_, rfl⟩
  obtain ⟨a1, ha1⟩ : ∃ a1, a1 = X1.length := ⟨_, rfl⟩
  rw [← ha0] at hL0
  rw [← ha1] at hL1
  have HA0 := Lib.hid ha0; have HA1 := Lib.hid ha1
  obtain ⟨a2, ha2⟩ : ∃ a2, a2 = a1 + 2 := ⟨_, rfl⟩
  obtain ⟨L, hL⟩ : ∃ L, L = X0 ++ (⟨0, v + 1, 0⟩ :: ⟨3, z, (a2 : Int)⟩ :: ((X1 ++ ([⟨2, v, v + 2⟩, ⟨1, v + 1, 0⟩] : List R3)) ++ [⟨2, out, v⟩])) := ⟨_, rfl⟩
  have HRL : Hid (lpF (N + 1) (x :: l) xs out v = L) := by unfold Hid; rw [HR.out, HG.out, hL, List.length_append, ← ha1, ha2]; rfl
  have HLL : Hid (L.length = a0 + 2 + a2 + 1) := by unfold Hid; rw [hL]; simp only [List.length_append, List.length_cons, List.length_nil]; omega
  have HLR : Hid (rows R3.vs L = rows R3.vs X0 ++ [.int .i64 0, .int .i64 (v + 1), .int .i64 0, .int .i64 3, .int .i64 z, .int .i64 (a2 : Int)] ++ (rows R3.vs X1 ++ [.int .i64 2, .int .i64 v, .int .i64 (v + 2), .int .i64 1, .int .i64 (v + 1), .int .i64 0]) ++ [.int .i64 2, .int .i64 out, .int .i64 v]) := by
    unfold Hid; rw [hL]; simp only [rows, R3.vs, List.flatMap_append, List.flatMap_cons, List.flatMap_nil, List.append_assoc, List.cons_append, List.nil_append, List.append_nil]
  have HO2 := Lib.hid (one_rows_R3 X1)
  have HA2 := Lib.hid ha2
  have ha2le : a2 ≤ 482 := by omega
  clear hL ha2 HR
  have hq0 : (0 : Int) ≤ (q0 : Int) := by omega
  have hq0n : (q0 : Int) < (n : Int) := by omega
  have w3' : IntKind.i64.wrap (v + 3) = v + 3 := IntWalk.i64_in _ (by omega)
  have HO1 := Lib.hid (one_ints .i64 (xs.drop 1))
  have hnt10 : nt ≤ 10 := by omega
  have ha480 : a0 ≤ 480 := by omega
  have ha481 : a1 ≤ 480 := by omega
  have hna1' : (0 : Int) < (na : Int) := by omega
  have HSA := Lib.hid hsa
  clear hx hok hb hcs hbb h4 hT hna y0 B0 hpc hps hff hm2 hl hrun c0 c1 i0 i1 j0 j1 R0 R1 hX0 hX1 ha0 ha1 ho' hnt hct hz hsa ha IH hL0 hL1 k0' k1' l0 l1
  go_enter Tryz.func72, Tryz.ntmps72
  go_wp2_with fail
  rw [← HW0.out]
  refine HPA.out.mono ?_
  rintro e w1 ⟨v1, rfl, own1, b1⟩
  obtain ⟨A1, c1, rfl⟩ := own_form own1
  obtain ⟨g1, rfl, _, _⟩ := own_addr0 own1 (by omega)
  have ST1 := Lib.hid (show FSt w0 w.heap.size g1 x ps w1 from ⟨cell_step n0 b1, cell_step n1 b1, cell_step n2 b1, sl_of_own own1⟩)
  have r0 := cell_step (by exact n0) b1
  have s0 := ST1.out.at Q0.out
  have B1 := below_step HB0.out b1
  clear own1 b1 p0 p1 p2 n0 n1 n2
  have hm0 : (0 : Int) < ((2 : Nat) : Int) := by omega
  go_wp2
  go_region_held3 (fun W => W.cell? ⟨g1, 0, none⟩ = some (.int .i64 (q0 : Int))) (first | go_keep | exact s2)
    ((go_at_call 72; refine (HIH0.out _ (by exact below_step B1 (Below.refl w1.heap.size w1).drew)).mono ?_; rintro e w2 ⟨⟨v2, rfl, own2⟩, b2⟩; have s2 := cell_step (by exact s0) (below_drew_at b2)))
  all_goals
    clear s0 s2
    have B12 := below_drew_at b2
    have own2' : w2.ownsRow w1.heap.size 86 3 v2 X0.length (rows R3.vs X0) := own2
    rw [← HA0.out] at own2'
    obtain ⟨A2, c2, rfl⟩ := own_form own2'
    have B2 := below_step B1 B12
    have ST2 := Lib.hid (ST1.out.below B12)
    clear own2 b2 HW0 r0
    obtain ⟨w2b, HW2, B2b, y2⟩ := al1 w2 (.cells #[.int .i64 (v + 1), .int .i64 v] 2)
    have ownT : w2b.ownsRow w2.heap.size 2 1 (.slice (some ⟨w2.heap.size, 0, none⟩) 2 2) 2 [.int .i64 (v + 1), .int .i64 v] := ⟨rfl, .inr ⟨w2.heap.size, 2, #[.int .i64 (v + 1), .int .i64 v], rfl, Nat.le_refl _, y2, Nat.le_refl _, by simp [maxLen], rfl, rfl⟩⟩
    have srcT : Src 1 w2b (.slice (some ⟨ba, o', none⟩) nt ct) nt ((xs.drop 1).map (Value.int .i64)) := Src.of_sl (HTL.out.below' (below_step B2 B2b)) (by rw [List.length_map, HTN.out, Nat.mul_one])
    have q1i : (0 : Int) ≤ (q1 : Int) := by omega
    clear y2
    go_wp2_with (at_builtin; rw [← HW2.out]; refine wpList_appx rfl _ _ _ rfl Tryz.underlying23 infoInt64S rfl (by omega) w2.heap.size ownT B2b.size rfl srcT rfl HO1.out (by unfold maxLen; omega) (by omega) ?_; intro v3 w3 own3 hg3 hnil3; clear hnil3; have B23 := grown_below B2b ownT (Nat.le_refl _) hg3; obtain ⟨A3, c3, rfl⟩ := own_form own3; have s3 := (ST2.out.below B23).at Q1.out; clear ownT srcT hg3 B2b)
    have B3 := below_step B2 B23
    have hc3 := own_capL own3 _ _ rfl
    have own23 := own_below' own2' B23
    refine (HIH1.out _ A3 c3 B3 (Src.of_own own3) hc3).mono ?_
    rintro e w4 ⟨⟨v4, rfl, own4⟩, b4⟩
    rw [← HA1.out] at own4
    obtain ⟨A4, c4, rfl⟩ := own_form own4
    have own24 := own_below' own23 b4
    have B12' := Lib.hid (show Below w1.heap.size w1 w3 from below_step B12 B23)
    have b34 := b4
    clear own3 own2' s3 B23 B12 B2
    have b3 := B12'.out
    obtain ⟨w4b, HW4, B4b, y4⟩ := al1 w4 (.cells #[.int .i64 2, .int .i64 v, .int .i64 (v + 2), .int .i64 1, .int .i64 (v + 1), .int .i64 0] 86)
    have own4b := own_below' own4 B4b
    have B34b := below_step b34 B4b
    have src4 : Src 3 w4b (.slice (some ⟨w4.heap.size, 0, none⟩) 2 2) 2 [.int .i64 2, .int .i64 v, .int .i64 (v + 2), .int .i64 1, .int .i64 (v + 1), .int .i64 0] := Src.of_own (own_laid' HW4.out rfl (by unfold maxLen; omega))
    clear y4 b4 own4
    go_wp2_with (first
      | (at_builtin; rw [← HW4.out]; refine wpList_appx rfl _ _ _ rfl Tryz.underlying59 infoLoop rfl (by omega) w3.heap.size own4b B34b.size rfl src4 rfl (one_of_all rfl) (by unfold maxLen; omega) (by omega) ?_; intro v5 w5 own5 hg5 hnil5; clear hnil5 src4 B4b; have B35 := grown_below B34b own4b (Nat.le_refl _) hg5; rw [← HA2.out] at own5; obtain ⟨A5, c5, rfl⟩ := own_form own5; have own25 := own_below' own23 B35; have r5 := (HSA.out.below' (below_step B3 B35)).at hz'.out; rw [Nat.add_zero] at r5; clear own4b hg5; obtain ⟨w5b, HW5, B5b, y5⟩ := al1 w5 (.cells #[.int .i64 0, .int .i64 (v + 1), .int .i64 0, .int .i64 3, .int .i64 z, .int .i64 (a2 : Int)] 86); have own5b := own_below' own5 B5b; have own25b := own_below' own25 B5b; have src5 : Src 3 w5b (.slice (some ⟨w5.heap.size, 0, none⟩) 2 2) 2 [.int .i64 0, .int .i64 (v + 1), .int .i64 0, .int .i64 3, .int .i64 z, .int .i64 (a2 : Int)] := Src.of_own (own_laid' HW5.out rfl (by unfold maxLen; omega)); have B15b : Below w1.heap.size w1 w5b := below_step (below_step b3 B35) B5b; clear y5 own5 own25 B35)
      | (at_builtin; rw [← HW5.out]; refine wpList_appx rfl _ _ _ rfl Tryz.underlying59 infoLoop rfl (by omega) w1.heap.size own25b B15b.size rfl src5 rfl (one_of_all rfl) (by unfold maxLen; omega) (by omega) ?_; intro v6 w6 own6 hg6 hnil6; clear hnil6 src5 r5; have B16 := grown_below B15b own25b (Nat.le_refl _) hg6; have own56 := own5b.kept hg6 (own_apart' own23 own5b (Nat.le_refl _)); obtain ⟨A6, c6, rfl⟩ := own_form own6; have src6 := Src.of_own own56; have HO6 := Lib.hid (one_app HO2.out (ys := [.int .i64 2, .int .i64 v, .int .i64 (v + 2), .int .i64 1, .int .i64 (v + 1), .int .i64 0]) (one_of_all rfl)); clear own25b own5b own56 hg6 B15b own23)
      | (at_builtin; refine wpList_appx rfl _ _ _ rfl Tryz.underlying59 infoLoop rfl (by omega) w1.heap.size own6 B16.size rfl src6 rfl HO6.out (by unfold maxLen; omega) (by omega) ?_; intro v7 w7 own7 hg7 hnil7; clear hnil7 src6; have B17 := grown_below B16 own6 (Nat.le_refl _) hg7; obtain ⟨A7, c7, rfl⟩ := own_form own7; clear own6 hg7 B16; obtain ⟨w7b, HW7, B7b, y7⟩ := al1 w7 (.cells #[.int .i64 2, .int .i64 out, .int .i64 v] 86); have own7b := own_below' own7 B7b; have src7 : Src 3 w7b (.slice (some ⟨w7.heap.size, 0, none⟩) 1 1) 1 [.int .i64 2, .int .i64 out, .int .i64 v] := Src.of_own (own_laid' HW7.out rfl (by unfold maxLen; omega)); have B17b := below_step B17 B7b; clear y7 own7 B17)
      | (at_builtin; rw [← HW7.out]; refine wpList_appx rfl _ _ _ rfl Tryz.underlying59 infoLoop rfl (by omega) w1.heap.size own7b B17b.size rfl src7 rfl (one_of_all rfl) (by unfold maxLen; omega) (by omega) ?_; intro v8 w8 own8 hg8 hnil8; clear hnil8 src7; have B18 := grown_below B17b own7b (Nat.le_refl _) hg8; clear own7b hg8 B17b))
    go_ret
    refine ⟨⟨_, rfl, ?_⟩, below_step B1 B18⟩
    rw [HRL.out, HLL.out, HLR.out]
    exact own_base own8 B1.size
end Go.Proofs.YtjggkgdojhlhpaaGreat

/- Loop programs of recursive functions, the reference's side: the kind 5. -/
namespace Go.Proofs.YtjggkgdojhlhpaaGreat
open Go.RowKit
set_option linter.all false

set_option maxRecDepth 100000 in
set_option maxHeartbeats 4000000 in
theorem l17Min_any (b off n c : Nat) (T : List R3) (hT : FAll T n) (N k m : Nat) (IH : Hid (LpIH b off n c T N)) (hmN : m ≤ N) (hkm : k + (m + 1) ≤ n) (x : R3) (hx : T[k]? = some x) (A : Option Addr) (na ca : Nat) (xs : List Int) (out v : Int) (w : World) (hs : Sl w b off (rows R3.vs T)) (hsr : Src 1 w (.slice A na ca) na (xs.map (Value.int .i64))) (hca : na ≤ ca) (hna10 : na ≤ 10)
    (hb : x.b = (xs.length : Int)) (hok : fOkN x = true) (l : List R3) (hl : l = part3 T (k + 1) m) (hrun : fRun (fFols x) l = some []) (hv0 : 0 ≤ v) (hv : v + 4 * ((m : Int) + 1) ≤ 1000) (h5 : x.a = 5) :
    Calls Tryz.prog 72 #[.slice (some ⟨b, off, none⟩) n c, .int .i64 k, .slice A na ca, .int .i64 out, .int .i64 v] w (LpOk w (lpF (N + 1) (x :: l) xs out v)) := by
  have ha := hsr.arg
  have HL := Lib.hid hT.len
  have HX := Lib.hid hx
  have hn60 := hT.le
  have hlt : k < n := by have := (List.getElem?_eq_some_iff.1 hx).1; have := hT.len; omega
  have hna : xs.length = na := by have := ha.1; simpa using this
  have HNA := Lib.hid hna
  have hcs := (fOkN_iff x).1 hok
  obtain ⟨bb, hbb⟩ := fit_next hT.fits hx
  obtain ⟨p0, p1, p2⟩ := hs.rec3 HX.out
  obtain ⟨w0, HW0, B0, y0⟩ := al1 w (.cells #[.int .i64 x.a, .int .i64 x.b, .int .i64 x.c] 35)
  have n0 : w0.cell? ⟨w.heap.size, 0, none⟩ = some (.int .i64 x.a) := by rw [cell_of_heap y0]; rfl
  have n1 : w0.cell? ⟨w.heap.size, 1, none⟩ = some (.int .i64 x.b) := by rw [cell_of_heap y0]; rfl
  have n2 : w0.cell? ⟨w.heap.size, 2, none⟩ = some (.int .i64 x.c) := by rw [cell_of_heap y0]; rfl
  have HPA := Lib.hid (l11Parts_any (some ⟨b, off, none⟩) n c k bb k rfl T x hx hT.ok hbb w0 (Args.of_sl (hs.below' B0) (by rw [rows_len R3.vs_len, HL.out])) (by omega))
  have HB0 := Lib.hid B0
  have hk0 : (0 : Int) ≤ (k : Int) := by omega
  have hkn : (k : Int) < (n : Int) := by omega
  have hpc := poss_cut T (fFols x) (k + 1) m (by rw [hT.len]; omega) (by rw [← hl]; exact hrun)
  rw [fFols_len hok, ← hl] at hpc
  obtain ⟨ps, hps⟩ : ∃ ps, ps = poss (fMany x) (k + 1) (T.drop (k + 1)) := ⟨_, rfl⟩
  rw [← hps] at hpc HPA
  have HPS : Hid (ps.length = fMany x) := by unfold Hid; rw [hps, poss_len]
  have hff := fFols_5 h5
  obtain ⟨q0, len0, Q0, c0, i0, j0, k0', R0, l0⟩ := part_of (i := 0) (a := x.b + 1) hok hrun hl hpc (by rw [hff]; rfl)
  have HR := Lib.hid (lp5 (N := N) (xs := xs) (out := out) (v := v) h5 c0)
  have hm2 := fMany_5 h5
  rw [hm2] at HPA HPS
  have e0 : (x.a == 0) = false := by rw [h5]; rfl
  have e1 : (x.a == 1) = false := by rw [h5]; rfl
  have e2 : (x.a == 2) = false := by rw [h5]; rfl
  have e3 : (x.a == 3) = false := by rw [h5]; rfl
  have e4 : (x.a == 4) = false := by rw [h5]; rfl
  have HIH0 : Hid (∀ W A1 c1, Below w.heap.size w W → Src 1 W (.slice A1 (1 + na) c1) (1 + na) ((v :: xs).map (Value.int .i64)) → 1 + na ≤ c1 → Calls Tryz.prog 72 #[.slice (some ⟨b, off, none⟩) n c, .int .i64 (q0 : Int), .slice A1 (1 + na) c1, .int .i64 (v + 1), .int .i64 (v + 3)] W (LpOk W (lpF N (part3 T q0 len0) (v :: xs) (v + 1) (v + 3)))) := fun W A1 c1 hW hA1 hc1 =>
    IH.out q0 len0 q0 A1 (1 + na) c1 _ (v + 1) (v + 3) W rfl (by omega) (by omega) (hs.below' hW) hA1 hc1 (by omega) (by rw [show (((v :: xs).length : Nat) : Int) = x.b + 1 by simp only [List.length_cons]; omega]; exact R0) (by omega) (by omega)
  have hL0 := lpF_len N (part3 T q0 len0) (v :: xs) (v + 1) (v + 3)
  rw [part3_len (T := T) (k := q0) (m := len0) (by rw [HL.out]; omega)] at hL0
  obtain ⟨X0, hX0⟩ : ∃ X0, X0 = lpF N (part3 T q0 len0) (v :: xs) (v + 1) (v + 3) := ⟨_, rfl⟩
  rw [← hX0] at HIH0 hL0 HR
  obtain ⟨a0, ha0⟩ : ∃ a0, a0 = X0.length := ⟨_, rfl⟩
  rw [← ha0] at hL0
  have HA0 := Lib.hid ha0
  have ha480 : a0 ≤ 480 := by omega
  obtain ⟨a1, ha1⟩ : ∃ a1, a1 = 1 + a0 + 1 := ⟨_, rfl⟩
  obtain ⟨L, hL⟩ : ∃ L, L = (⟨0, v, 0⟩ :: ⟨0, v + 1, 0⟩ :: ⟨1, v + 1, 0⟩ :: ⟨4, v + 1, (a1 : Int)⟩ :: (((⟨2, v + 2, v⟩ : R3) :: (X0 ++ [⟨1, v, 0⟩])) ++ [⟨2, out, v + 2⟩]) : List R3) := ⟨_, rfl⟩
  have HRL : Hid (lpF (N + 1) (x :: l) xs out v = L) := by unfold Hid; rw [HR.out, hL, List.length_cons, List.length_append, ← ha0, ha1, show ([⟨1, v, 0⟩] : List R3).length = 1 from rfl, show a0 + 1 + 1 = 1 + a0 + 1 by omega]
  have HLL : Hid (L.length = 4 + a1 + 1) := by unfold Hid; rw [hL]; simp only [List.length_append, List.length_cons, List.length_nil]; omega
  have HLR : Hid (rows R3.vs L = [.int .i64 0, .int .i64 v, .int .i64 0, .int .i64 0, .int .i64 (v + 1), .int .i64 0, .int .i64 1, .int .i64 (v + 1), .int .i64 0, .int .i64 4, .int .i64 (v + 1), .int .i64 (a1 : Int)] ++ (([.int .i64 2, .int .i64 (v + 2), .int .i64 v] ++ rows R3.vs X0) ++ [.int .i64 1, .int .i64 v, .int .i64 0]) ++ [.int .i64 2, .int .i64 out, .int .i64 (v + 2)]) := by
    unfold Hid; rw [hL]; simp only [rows, R3.vs, List.flatMap_append, List.flatMap_cons, List.flatMap_nil, List.append_assoc, List.cons_append, List.nil_append, List.append_nil]
  have HO2 := Lib.hid (one_rows_R3 X0)
  have HO1 := Lib.hid (one_ints .i64 xs)
  have HOB := Lib.hid (one_app (xs := [.int .i64 2, .int .i64 (v + 2), .int .i64 v] ++ rows R3.vs X0) (ys := [.int .i64 1, .int .i64 v, .int .i64 0]) (one_app (one_of_all rfl) HO2.out) (one_of_all rfl))
  have HA1 := Lib.hid ha1
  have ha1le : a1 ≤ 482 := by omega
  have HSR := Lib.hid hsr
  clear hL ha1 HR
  have hq0 : (0 : Int) ≤ (q0 : Int) := by omega
  clear hx hok hb hcs hbb h5 hT hna y0 B0 hpc hps hff hm2 hl hrun c0 i0 j0 R0 hX0 ha0 ha IH hL0 k0' l0 hsr
  go_enter Tryz.func72, Tryz.ntmps72
  go_wp2_with fail
  rw [← HW0.out]
  refine HPA.out.mono ?_
  rintro e w1 ⟨v1, rfl, own1, b1⟩
  obtain ⟨A1, c1, rfl⟩ := own_form own1
  obtain ⟨g1, rfl, _, _⟩ := own_addr0 own1 (by omega)
  have ST1 := Lib.hid (show FSt w0 w.heap.size g1 x ps w1 from ⟨cell_step n0 b1, cell_step n1 b1, cell_step n2 b1, sl_of_own own1⟩)
  have r0 := cell_step (by exact n0) b1
  have B1 := below_step HB0.out b1
  clear own1 b1 p0 p1 p2 n0 n1 n2
  obtain ⟨w1b, HW1, B1b, y1⟩ := al1 w1 (.cells #[.int .i64 v] 2)
  have ownT : w1b.ownsRow w1.heap.size 2 1 (.slice (some ⟨w1.heap.size, 0, none⟩) 1 1) 1 [.int .i64 v] := own_laid' HW1.out rfl (by unfold maxLen; omega)
  have srcT : Src 1 w1b (.slice A na ca) na (xs.map (Value.int .i64)) := HSR.out.below (below_step B1 B1b)
  clear y1
  have hm1 : (0 : Int) < ((1 : Nat) : Int) := by omega
  go_wp2_with (at_builtin; rw [← HW1.out]; refine wpList_appx rfl _ _ _ rfl Tryz.underlying23 infoInt64S rfl (by omega) w1.heap.size ownT B1b.size rfl srcT rfl HO1.out (by unfold maxLen; omega) (by omega) ?_; intro v2 w2 own2 hg2 hnil2; clear hnil2; have B12 := grown_below B1b ownT (Nat.le_refl _) hg2; obtain ⟨A2, c2, rfl⟩ := own_form own2; clear ownT srcT hg2 B1b; obtain ⟨w2b, HW2, B2b, y2⟩ := al1 w2 (.cells #[.int .i64 2, .int .i64 (v + 2), .int .i64 v] 86); have B12b := below_step B12 B2b; have s2 := (ST1.out.below B12b).at Q0.out; rw [HW2.out] at s2; have own2b := own_below' own2 B2b; have hc2 := own_capL own2 _ _ rfl; have ownB : w2b.ownsRow w2.heap.size 86 3 (.slice (some ⟨w2.heap.size, 0, none⟩) 1 1) 1 [.int .i64 2, .int .i64 (v + 2), .int .i64 v] := own_laid' HW2.out rfl (by unfold maxLen; omega); clear y2 own2)
  rw [← HW2.out]
  have B2b' := below_step B1 B12b
  refine (HIH0.out _ A2 c2 B2b' (Src.of_own own2b) hc2).mono ?_
  rintro e w3 ⟨⟨v3, rfl, own3⟩, b3⟩
  rw [← HA0.out] at own3
  obtain ⟨A3, c3, rfl⟩ := own_form own3
  have ownB3 := own_below' ownB b3
  have B23 : Below w2.heap.size w2 w3 := below_step B2b b3
  have B3 : Below w.heap.size w w3 := below_step B2b' b3
  have src3 := Src.of_own own3
  have B2' := below_step B1 B12
  clear own2b ownB b3 own3 s2 B12b B12 B2b
  go_wp2_with (first
    | (at_builtin; refine wpList_appx rfl _ _ _ rfl Tryz.underlying59 infoLoop rfl (by omega) w2.heap.size ownB3 B23.size rfl src3 rfl HO2.out (by unfold maxLen; omega) (by omega) ?_; intro v4 w4 own4 hg4 hnil4; clear hnil4 src3; have B24 := grown_below B23 ownB3 (Nat.le_refl _) hg4; obtain ⟨A4, c4, rfl⟩ := own_form own4; clear ownB3 hg4 B23; obtain ⟨w4b, HW4, B4b, y4⟩ := al1 w4 (.cells #[.int .i64 1, .int .i64 v, .int .i64 0] 86); have own4b := own_below' own4 B4b; have src4 : Src 3 w4b (.slice (some ⟨w4.heap.size, 0, none⟩) 1 1) 1 [.int .i64 1, .int .i64 v, .int .i64 0] := Src.of_own (own_laid' HW4.out rfl (by unfold maxLen; omega)); have B24b := below_step B24 B4b; clear y4 own4 B24)
    | (at_builtin; rw [← HW4.out]; refine wpList_appx rfl _ _ _ rfl Tryz.underlying59 infoLoop rfl (by omega) w2.heap.size own4b B24b.size rfl src4 rfl (one_of_all rfl) (by unfold maxLen; omega) (by omega) ?_; intro v5 w5 own5 hg5 hnil5; clear hnil5 src4; have B25 := grown_below B24b own4b (Nat.le_refl _) hg5; rw [← HA1.out] at own5; obtain ⟨A5, c5, rfl⟩ := own_form own5; clear own4b hg5 B24b; obtain ⟨w5b, HW5, B5b, y5⟩ := al1 w5 (.cells #[.int .i64 0, .int .i64 v, .int .i64 0, .int .i64 0, .int .i64 (v + 1), .int .i64 0, .int .i64 1, .int .i64 (v + 1), .int .i64 0, .int .i64 4, .int .i64 (v + 1), .int .i64 (a1 : Int)] 86); have src5 := Src.of_own (own_below' own5 B5b); have ownO : w5b.ownsRow w5.heap.size 86 3 (.slice (some ⟨w5.heap.size, 0, none⟩) 4 4) 4 [.int .i64 0, .int .i64 v, .int .i64 0, .int .i64 0, .int .i64 (v + 1), .int .i64 0, .int .i64 1, .int .i64 (v + 1), .int .i64 0, .int .i64 4, .int .i64 (v + 1), .int .i64 (a1 : Int)] := own_laid' HW5.out rfl (by unfold maxLen; omega); clear y5)
    | (at_builtin; rw [← HW5.out]; refine wpList_appx rfl _ _ _ rfl Tryz.underlying59 infoLoop rfl (by omega) w5.heap.size ownO B5b.size rfl src5 rfl HOB.out (by unfold maxLen; omega) (by omega) ?_; intro v6 w6 own6 hg6 hnil6; clear hnil6 src5; have B56 := grown_below B5b ownO (Nat.le_refl _) hg6; obtain ⟨A6, c6, rfl⟩ := own_form own6; clear ownO hg6 B5b; obtain ⟨w6b, HW6, B6b, y6⟩ := al1 w6 (.cells #[.int .i64 2, .int .i64 out, .int .i64 (v + 2)] 86); have own6b := own_below' own6 B6b; have src6 : Src 3 w6b (.slice (some ⟨w6.heap.size, 0, none⟩) 1 1) 1 [.int .i64 2, .int .i64 out, .int .i64 (v + 2)] := Src.of_own (own_laid' HW6.out rfl (by unfold maxLen; omega)); have B56b := below_step B56 B6b; clear y6 own6 B56)
    | (at_builtin; rw [← HW6.out]; refine wpList_appx rfl _ _ _ rfl Tryz.underlying59 infoLoop rfl (by omega) w5.heap.size own6b B56b.size rfl src6 rfl (one_of_all rfl) (by unfold maxLen; omega) (by omega) ?_; intro v7 w7 own7 hg7 hnil7; clear hnil7 src6; have B57 := grown_below B56b own6b (Nat.le_refl _) hg7; clear own6b hg7 B56b))
  go_ret
  have B27 := below_step B25 B57
  refine ⟨⟨_, rfl, ?_⟩, below_step B2' B27⟩
  rw [HRL.out, HLL.out, HLR.out]
  exact own_base own7 (below_step B2' B25).size
end Go.Proofs.YtjggkgdojhlhpaaGreat

/- Loop programs of recursive functions, the reference's side: the kind 3. -/
namespace Go.Proofs.YtjggkgdojhlhpaaGreat
open Go.RowKit
set_option linter.all false

theorem inn_mono (N : Nat) (ps : List (List R3)) (xs : List Int) (v f : Int) {t k : Nat} (h : t ≤ k) : (inn N ps xs v f t).length ≤ (inn N ps xs v f k).length := by
  induction k with
  | zero =>
    obtain rfl : t = 0 := by omega
    exact Nat.le_refl _
  | succ k ih =>
    rcases Nat.lt_or_ge t (k + 1) with h1 | h1
    · rw [inn_succ, List.length_append]; have := ih (by omega); omega
    · obtain rfl : t = k + 1 := by omega
      exact Nat.le_refl _

set_option maxRecDepth 100000 in
set_option maxHeartbeats 4000000 in
theorem l17Comp_any (b off n c : Nat) (T : List R3) (hT : FAll T n) (N k m : Nat) (IH : Hid (LpIH b off n c T N)) (hmN : m ≤ N) (hkm : k + (m + 1) ≤ n) (x : R3) (hx : T[k]? = some x) (A : Option Addr) (na ca : Nat) (xs : List Int) (out v : Int) (w : World) (hs : Sl w b off (rows R3.vs T)) (hsr : Src 1 w (.slice A na ca) na (xs.map (Value.int .i64))) (hca : na ≤ ca) (hna10 : na ≤ 10)
    (hb : x.b = (xs.length : Int)) (hok : fOkN x = true) (l : List R3) (hl : l = part3 T (k + 1) m) (hrun : fRun (fFols x) l = some []) (hv0 : 0 ≤ v) (hv : v + 4 * ((m : Int) + 1) ≤ 1000) (h3 : x.a = 3) :
    Calls Tryz.prog 72 #[.slice (some ⟨b, off, none⟩) n c, .int .i64 k, .slice A na ca, .int .i64 out, .int .i64 v] w (LpOk w (lpF (N + 1) (x :: l) xs out v)) := by
  have ha := hsr.arg
  have HL := Lib.hid hT.len
  have HX := Lib.hid hx
  have hn60 := hT.le
  have hlt : k < n := by have := (List.getElem?_eq_some_iff.1 hx).1; have := hT.len; omega
  have hna : xs.length = na := by have := ha.1; simpa using this
  have HNA := Lib.hid hna
  have hcs := (fOkN_iff x).1 hok
  obtain ⟨bb, hbb⟩ := fit_next hT.fits hx
  obtain ⟨p0, p1, p2⟩ := hs.rec3 HX.out
  obtain ⟨w0, HW0, B0, y0⟩ := al1 w (.cells #[.int .i64 x.a, .int .i64 x.b, .int .i64 x.c] 35)
  have n0 : w0.cell? ⟨w.heap.size, 0, none⟩ = some (.int .i64 x.a) := by rw [cell_of_heap y0]; rfl
  have n1 : w0.cell? ⟨w.heap.size, 1, none⟩ = some (.int .i64 x.b) := by rw [cell_of_heap y0]; rfl
  have n2 : w0.cell? ⟨w.heap.size, 2, none⟩ = some (.int .i64 x.c) := by rw [cell_of_heap y0]; rfl
  have HPA := Lib.hid (l11Parts_any (some ⟨b, off, none⟩) n c k bb k rfl T x hx hT.ok hbb w0 (Args.of_sl (hs.below' B0) (by rw [rows_len R3.vs_len, HL.out])) (by omega))
  have HB0 := Lib.hid B0
  have hk0 : (0 : Int) ≤ (k : Int) := by omega
  have hkn : (k : Int) < (n : Int) := by omega
  have hpc := poss_cut T (fFols x) (k + 1) m (by rw [hT.len]; omega) (by rw [← hl]; exact hrun)
  rw [fFols_len hok, ← hl] at hpc
  obtain ⟨ps, hps⟩ : ∃ ps, ps = poss (fMany x) (k + 1) (T.drop (k + 1)) := ⟨_, rfl⟩
  rw [← hps] at hpc HPA
  have HPS : Hid (ps.length = fMany x) := by unfold Hid; rw [hps, poss_len]
  have hff := fFols_3 h3
  obtain ⟨kc, hkc⟩ : ∃ kc : Nat, x.c = (kc : Int) := ⟨x.c.toNat, by omega⟩
  have hk1 : 1 ≤ kc := by omega
  have hk4 : kc ≤ 4 := by omega
  have hm2 : fMany x = kc + 1 := by rw [fMany_3 h3]; omega
  obtain ⟨q0, len0, Q0, c0, i0, j0, k0', R0, l0⟩ := part_of (i := 0) (a := (kc : Int)) hok hrun hl hpc (by rw [hff, hkc]; rfl)
  have hLT := lpF_len (N + 1) (x :: l) xs out v
  have hHR := lp3 (N := N) (l := l) (xs := xs) (out := out) (v := v) h3 hkc
  have HPT : Hid (∀ t, t < kc → ∃ q, Hid (ps[t + 1]? = some q) ∧ (q : Int) < (n : Int) ∧ ∀ W, Below w.heap.size w W → Calls Tryz.prog 72 #[.slice (some ⟨b, off, none⟩) n c, .int .i64 (q : Int), .slice A na ca, .int .i64 (v + (t : Int)), .int .i64 (v + (kc : Int))] W (LpOk W (lpF N ((cut (fMany x) l).getD (t + 1) []) xs (v + (t : Int)) (v + (kc : Int))))) := by
    intro t ht
    obtain ⟨q, len, Q, cq, iq, jq, kq, Rq, lq⟩ := part_of (i := t + 1) (a := x.b) hok hrun hl hpc (by rw [hff, hkc, Int.toNat_natCast, List.getElem?_cons_succ, List.getElem?_replicate, if_pos ht])
    refine ⟨q, Q, by omega, fun W hW => ?_⟩
    rw [cq]
    exact IH.out q len q A na ca xs _ _ W rfl (by omega) (by omega) (hs.below' hW) (hsr.below hW) hca hna10 (by rw [← hb]; exact Rq) (by omega) (by omega)
  obtain ⟨pl, hpl⟩ : ∃ pl, pl = cut (fMany x) l := ⟨_, rfl⟩
  rw [← hpl] at HPT hHR c0
  rw [hHR, List.length_append, List.length_cons] at hLT
  have hll : l.length = m := by rw [hl]; exact part3_len (T := T) (by rw [HL.out]; omega)
  rw [c0] at hLT hHR
  have HIN : Hid (∀ t, t ≤ kc → (inn N pl xs v (v + (kc : Int)) t).length ≤ 480) := fun t ht => by have := inn_mono N pl xs v (v + (kc : Int)) ht; omega
  rw [hm2] at HPA HPS
  have e0 : (x.a == 0) = false := by rw [h3]; rfl
  have e1 : (x.a == 1) = false := by rw [h3]; rfl
  have e2 : (x.a == 2) = false := by rw [h3]; rfl
  have e3 : (x.a == 3) = true := by rw [h3]; rfl
  have HIH0 : Hid (∀ W A1 c1, Below w.heap.size w W → Src 1 W (.slice A1 kc c1) kc ((vars v kc).map (Value.int .i64)) → kc ≤ c1 → Calls Tryz.prog 72 #[.slice (some ⟨b, off, none⟩) n c, .int .i64 (q0 : Int), .slice A1 kc c1, .int .i64 out, .int .i64 (v + (kc : Int))] W (LpOk W (lpF N (part3 T q0 len0) (vars v kc) out (v + (kc : Int))))) := fun W A1 c1 hW hA1 hc1 =>
    IH.out q0 len0 q0 A1 kc c1 _ out (v + (kc : Int)) W rfl (by omega) (by omega) (hs.below' hW) hA1 hc1 (by omega) (by rw [vars_len]; exact R0) (by omega) (by omega)
  obtain ⟨X0, hX0⟩ : ∃ X0, X0 = lpF N (part3 T q0 len0) (vars v kc) out (v + (kc : Int)) := ⟨_, rfl⟩
  rw [← hX0] at HIH0 hHR hLT
  obtain ⟨a0, ha0⟩ : ∃ a0, a0 = X0.length := ⟨_, rfl⟩
  rw [← ha0] at hLT
  have HA0 := Lib.hid ha0
  have ha480 : a0 ≤ 480 := by omega
  have HR := Lib.hid hHR
  have HSR := Lib.hid hsr
  have HO0 := Lib.hid (one_rows_R3 X0)
  have hq0 : (0 : Int) ≤ (q0 : Int) := by omega
  rw [hkc] at n2 HW0 p2
  have HKC := Lib.hid hkc
  clear hx hok hb hcs hbb h3 hT hna y0 B0 hpc hps hff hm2 hl hrun c0 i0 j0 R0 hX0 ha0 ha IH hLT hHR k0' l0 hsr hpl hll hkc
  go_enter Tryz.func72, Tryz.ntmps72
  go_wp2_with fail
  rw [← HW0.out]
  refine HPA.out.mono ?_
  rintro e w1 ⟨v1, rfl, own1, b1⟩
  obtain ⟨A1, c1, rfl⟩ := own_form own1
  obtain ⟨g1, rfl, _, _⟩ := own_addr0 own1 (by omega)
  have ST1 := Lib.hid (show FSt w0 w.heap.size g1 x ps w1 from ⟨cell_step n0 b1, cell_step n1 b1, (by rw [HKC.out]; exact cell_step n2 b1), sl_of_own own1⟩)
  have r0 := cell_step (by exact n0) b1
  have B1 := below_step HB0.out b1
  clear own1 b1 p0 p1 p2 n0 n1 n2
  obtain ⟨wa, HWA, BA, yA⟩ := al1 w1 (.cells #[] 86)
  obtain ⟨wb, HWB, BB, yB⟩ := al1 wa (.cells #[] 2)
  have ownO : wb.ownsRow w1.heap.size 86 3 (.slice (some ⟨w1.heap.size, 0, none⟩) 0 0) 0 [] := own_below' (by rw [HWA.out]; exact own_empty w1 86 3) BB
  have ownI : wb.ownsRow w1.heap.size 2 1 (.slice (some ⟨wa.heap.size, 0, none⟩) 0 0) 0 [] := own_base (by rw [HWB.out]; exact own_empty wa 2 1) BA.size
  have B1b := below_step BA BB
  clear yA yB BA BB
  have HSB := Lib.hid (show wa.heap.size = w1.heap.size + 1 by rw [HWA.out]; simp)
  rw [HSB.out] at ownI
  go_wp2
  rw [← HWA.out, ← HWB.out]
  go_loopw [13, 14, 15] (fun vo vi i wr => ∃ t ct : Nat, t ≤ kc ∧ Hid (ct = (inn N pl xs v (v + (kc : Int)) t).length) ∧ ct ≤ 480 ∧ i = .int .i64 (t : Nat) ∧ (∃ A c, vo = .slice A ct c ∧ Hid (wr.ownsRow w1.heap.size 86 3 (.slice A ct c) ct (rows R3.vs (inn N pl xs v (v + (kc : Int)) t)))) ∧ (∃ A c, vi = .slice A t c ∧ Hid (wr.ownsRow w1.heap.size 2 1 (.slice A t c) t ((vars v t).map (Value.int .i64)))) ∧ Below w1.heap.size w1 wr) (fun _ _ i _ => kc - (intOf i).toNat)
  case atStart => exact ⟨0, 0, by omega, rfl, by omega, rfl, ⟨_, _, rfl, ownO⟩, ⟨_, _, rfl, ownI⟩, B1b⟩
  case round =>
    obtain ⟨t, ct, ht, HCT, hct, rfl, ⟨A3, c3, rfl, ho⟩, ⟨A4, c4, rfl, hi⟩, hB⟩ := hrel
    clear ownO ownI B1b
    have k2 : wr.cell? ⟨w.heap.size, 2, none⟩ = some (.int .i64 (kc : Int)) := by rw [← HKC.out]; exact (ST1.out.below hB).c2
    by_cases hlt : t < kc
    · obtain ⟨q, HQ, hqn, hC⟩ := HPT.out t hlt
      obtain ⟨Xt, hXt⟩ : ∃ Xt, Xt = lpF N (pl.getD (t + 1) []) xs (v + (t : Int)) (v + (kc : Int)) := ⟨_, rfl⟩
      rw [← hXt] at hC
      have hin1 : inn N pl xs v (v + (kc : Int)) (t + 1) = inn N pl xs v (v + (kc : Int)) t ++ Xt := by rw [inn_succ, ← hXt]
      obtain ⟨ta, hta⟩ : ∃ ta, ta = Xt.length := ⟨_, rfl⟩
      have hle := HIN.out (t + 1) (by omega)
      rw [hin1, List.length_append, ← HCT.out, ← hta] at hle
      have HTA := Lib.hid hta
      have HCT1 : Hid (ct + ta = (inn N pl xs v (v + (kc : Int)) (t + 1)).length) := by unfold Hid; rw [hin1, List.length_append, ← HCT.out, hta]
      have HRS : Hid (rows R3.vs (inn N pl xs v (v + (kc : Int)) t) ++ rows R3.vs Xt = rows R3.vs (inn N pl xs v (v + (kc : Int)) (t + 1))) := by unfold Hid; rw [hin1, rows_app]
      have HVS : Hid ((vars v t).map (Value.int .i64) ++ [.int .i64 (v + (t : Int))] = (vars v (t + 1)).map (Value.int .i64)) := by unfold Hid; rw [vars_succ, List.map_append]; rfl
      have HOX := Lib.hid (one_rows_R3 Xt)
      have HC := Lib.hid hC
      clear hXt hin1 hta hC
      obtain ⟨wrb, HWR, BR, yR⟩ := al1 wr (.cells #[.int .i64 (v + (t : Int))] 2)
      have ob := own_below' ho.out BR
      have ib := own_below' hi.out BR
      have src : Src 1 wrb (.slice (some ⟨wr.heap.size, 0, none⟩) 1 1) 1 [.int .i64 (v + (t : Int))] := Src.of_own (own_laid' HWR.out rfl (by unfold maxLen; omega))
      have hBb := below_step hB BR
      have hlt' : (t : Int) < (kc : Int) := by omega
      have w9 : IntKind.i64.wrap (v + (t : Int)) = v + (t : Int) := IntWalk.i64_in _ (by omega)
      have w8 : IntKind.i64.wrap ((t : Int) + 1) = (t : Int) + 1 := IntWalk.i64_in _ (by omega)
      have w7 : IntKind.i64.wrap (v + (kc : Int)) = v + (kc : Int) := IntWalk.i64_in _ (by omega)
      have w6 : IntKind.i64.wrap (1 + (t : Int)) = 1 + (t : Int) := IntWalk.i64_in _ (by omega)
      have ht1 : (0 : Int) ≤ (t : Int) + 1 := by omega
      have ht2 : (t : Int) + 1 < ((kc + 1 : Nat) : Int) := by omega
      have htn : ((t : Int) + 1).toNat = t + 1 := by omega
      clear yR ho hi BR
      go_wp2_with (at_builtin; rw [← HWR.out]; refine wpList_appx rfl _ _ _ rfl Tryz.underlying23 infoInt64S rfl (by omega) w1.heap.size ib hBb.size rfl src rfl (one_of_all rfl) (by unfold maxLen; omega) (by omega) ?_; intro v5 w5 own5 hg5 hnil5; clear hnil5 src; have B15 := grown_below hBb ib (Nat.le_refl _) hg5; have ob5 := ob.kept hg5 (own_apart_ty ob ib (by decide)); rw [HVS.out] at own5; obtain ⟨A5, c5, rfl⟩ := own_form own5; have q5 := (ST1.out.below B15).at HQ.out; have u5 : w5.cell? ⟨w.heap.size, 2, none⟩ = some (.int .i64 (kc : Int)) := (by rw [← HKC.out]; exact (ST1.out.below B15).c2); clear ib ob hg5 hBb k2)
      go_region_held3 (fun W => W.cell? ⟨g1, t + 1, none⟩ = some (.int .i64 (q : Int)) ∧ W.cell? ⟨w.heap.size, 2, none⟩ = some (.int .i64 (kc : Int))) (first | go_keep | exact ⟨q6, u6⟩ | exact ⟨q7, u7⟩)
        ((first
          | (refine step_appx (by rfl) _ _ _ (by rfl) Tryz.underlying59 infoLoop rfl (by omega) w1.heap.size ob6 B16.size (by rfl) (Src.of_own own6) (by rfl) HOX.out (by unfold maxLen; omega) (by omega) ?_; intro v7 w7 own7 hg7 hnil7; clear hnil7; have B17 := grown_below B16 ob6 (Nat.le_refl _) hg7; have ib7 := ib6.kept hg7 (own_apart_ty ib6 ob6 (by decide)); rw [HRS.out] at own7; obtain ⟨A7, c7, rfl⟩ := own_form own7; have q7 := (ST1.out.below B17).at HQ.out; have u7 : w7.cell? ⟨w.heap.size, 2, none⟩ = some (.int .i64 (kc : Int)) := (by rw [← HKC.out]; exact (ST1.out.below B17).c2))
          | (go_at_call 72; refine (HC.out _ (by exact below_step B1 (below_step B15 (Below.refl w5.heap.size w5).drew))).mono ?_; rintro e w6 ⟨⟨v6, rfl, own6'⟩, b6'⟩; have b6 := below_drew_at b6'; have own6 : w6.ownsRow w5.heap.size 86 3 v6 Xt.length (rows R3.vs Xt) := own6'; rw [← HTA.out] at own6; obtain ⟨A6, c6, rfl⟩ := own_form own6; have ob6 := own_below' ob5 b6; have ib6 := own_below' own5 b6; have B16 := below_step B15 b6; have q6 := (ST1.out.below B16).at HQ.out; have u6 : w6.cell? ⟨w.heap.size, 2, none⟩ = some (.int .i64 (kc : Int)) := (by rw [← HKC.out]; exact (ST1.out.below B16).c2))))
      all_goals
        clear q5 u5 q6 u6
        go_wp2
        go_roundw
        case rel => exact ⟨t + 1, ct + ta, hlt, HCT1, hle, by go_num, ⟨_, _, rfl, own7⟩, ⟨_, _, rfl, ib7⟩, B17⟩
        case measure => simp [intOf]; omega
    · obtain rfl : t = kc := by omega
      have hc4 := own_capL hi.out _ _ rfl
      have q5 := (ST1.out.below hB).at Q0.out
      have w7 : IntKind.i64.wrap (v + (t : Int)) = v + (t : Int) := IntWalk.i64_in _ (by omega)
      have hm0 : (0 : Int) < ((t + 1 : Nat) : Int) := by omega
      have HRS : Hid (rows R3.vs (inn N pl xs v (v + (t : Int)) t) ++ rows R3.vs X0 = rows R3.vs (inn N pl xs v (v + (t : Int)) t ++ X0)) := by unfold Hid; rw [rows_app]
      go_wp2
      go_region_held3 (fun W => W.cell? ⟨g1, 0, none⟩ = some (.int .i64 (q0 : Int)) ∧ W.cell? ⟨w.heap.size, 2, none⟩ = some (.int .i64 (t : Int))) (first | go_keep | exact ⟨q6, u6⟩ | exact ⟨q7, u7⟩)
        ((first
          | (refine step_appx (by rfl) _ _ _ (by rfl) Tryz.underlying59 infoLoop rfl (by omega) w1.heap.size ob6 B16.size (by rfl) (Src.of_own own6) (by rfl) HO0.out (by unfold maxLen; omega) (by omega) ?_; intro v7 w7 own7 hg7 hnil7; clear hnil7; have B17 := grown_below B16 ob6 (Nat.le_refl _) hg7; rw [HRS.out] at own7; obtain ⟨A7, c7, rfl⟩ := own_form own7; have q7 := (ST1.out.below B17).at Q0.out; have u7 : w7.cell? ⟨w.heap.size, 2, none⟩ = some (.int .i64 (t : Int)) := (by rw [← HKC.out]; exact (ST1.out.below B17).c2))
          | (go_at_call 72; refine (HIH0.out _ A4 c4 (by exact below_step B1 (below_step hB (Below.refl wr.heap.size wr).drew)) (by exact (Src.of_own hi.out).below (Below.refl wr.heap.size wr).drew) hc4).mono ?_; rintro e w6 ⟨⟨v6, rfl, own6'⟩, b6'⟩; have b6 := below_drew_at b6'; have own6 : w6.ownsRow wr.heap.size 86 3 v6 X0.length (rows R3.vs X0) := own6'; rw [← HA0.out] at own6; obtain ⟨A6, c6, rfl⟩ := own_form own6; have ob6 := own_below' ho.out b6; have B16 := below_step hB b6; have q6 := (ST1.out.below B16).at Q0.out; have u6 : w6.cell? ⟨w.heap.size, 2, none⟩ = some (.int .i64 (t : Int)) := (by rw [← HKC.out]; exact (ST1.out.below B16).c2))))
      all_goals
        clear q5 q6 u6
        go_wp2
        go_ret
        refine ⟨⟨_, rfl, ?_⟩, below_step B1 B17⟩
        rw [HR.out, List.length_append, ← HCT.out, ← HA0.out]
        exact own_base own7 B1.size
end Go.Proofs.YtjggkgdojhlhpaaGreat
