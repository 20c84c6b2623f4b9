/- Recursive functions, the reference's side: l11End, l11Parts. -/
import Derived.Test.YtfmfpknigafnoaaFNode
import Derived.Test.YtfmfpknigafnoaaTermMore
import Derived.Test.YtfmfpknigafnoaaSGrid
import Derived.Test.YtfmfpknigafnoaaHelpInt
namespace Go.Proofs.Ytfmfpknigafnoaa
open Go.RowKit
set_option linter.all false

/-- Where m functions begin, one behind the other. -/
def poss : Nat → Nat → List R3 → List Nat
  | 0, _, _ => []
  | m + 1, at', l => at' :: poss m (at' + (tPosAt fMany 1 0 l).toNat) (l.drop (tPosAt fMany 1 0 l).toNat)
theorem poss_len : ∀ (m k : Nat) (l : List R3), (poss m k l).length = m
  | 0, _, _ => rfl
  | m + 1, _, _ => by rw [poss, List.length_cons, poss_len]
theorem rts_drop (m : Nat) (l : List R3) : ∀ s q : Nat, tPosAt fMany s 0 l = (q : Int) → rts m s l = rts m 0 (l.drop q) := by
  induction l with
  | nil => intro s q _; rw [List.drop_nil, rts_nil, rts_nil]
  | cons x l ih =>
    intro s q h
    cases s with
    | zero => rw [tPosAt_zero] at h; have : q = 0 := by omega
              subst this; rfl
    | succ s =>
      rw [tPosAt_succ] at h
      rcases tPosAt_shift fMany l (s + fMany x) 1 0 with ⟨h1, _⟩ | ⟨q', h1, h2⟩
      · rw [Nat.zero_add, h1] at h; omega
      · rw [Nat.zero_add, h1] at h
        have : q = q' + 1 := by omega
        subst this
        rw [rts_skip, List.drop_succ_cons]
        exact ih _ q' (by rw [h2]; congr 1; omega)
def arAt (xs : List R3) (p : Nat) : Int := match xs[p]? with | some x => x.b | none => 0
theorem rts_poss (xs : List R3) (b : Nat) : ∀ (m k : Nat), fit fMany (m + b) (xs.drop k) = true → rts m 0 (xs.drop k) = (poss m k (xs.drop k)).map (arAt xs) ∧ ∀ p ∈ poss m k (xs.drop k), p < xs.length := by
  intro m
  induction m with
  | zero => intro k _; rw [rts_0]; exact ⟨rfl, by simp [poss]⟩
  | succ m ih =>
    intro k hf
    obtain ⟨q, h1, h2, h3, h4, h5⟩ := fit_split fMany (xs.drop k) 1 (m + b) 0 (by rw [← hf]; congr 1; omega)
    rw [Nat.zero_add] at h2
    have hk : k < xs.length := by have := h5 (by omega); rw [List.length_drop] at h1; omega
    have hx : xs[k]? = some xs[k] := List.getElem?_eq_getElem hk
    have hd : xs.drop k = xs[k] :: xs.drop (k + 1) := drop_at hx
    have hq : (tPosAt fMany 1 0 (xs.drop k)).toNat = q := by rw [h2]; simp
    rw [List.drop_drop] at h4
    obtain ⟨i1, i2⟩ := ih (k + q) h4
    rw [poss, hq, List.drop_drop]
    refine ⟨?_, ?_⟩
    · rw [List.map_cons, ← i1]
      have e1 : arAt xs k = xs[k].b := by unfold arAt; rw [hx]
      rw [e1, hd, rts_take]
      congr 1
      have h2' := h2
      rw [hd, show (1 : Nat) = 0 + 1 from rfl, tPosAt_succ, Nat.zero_add] at h2'
      obtain ⟨q', rfl⟩ : ∃ q', q = q' + 1 := ⟨q - 1, by have := h5 (by omega); omega⟩
      rcases tPosAt_shift fMany (xs.drop (k + 1)) (fMany xs[k]) (0 + 1) 0 with ⟨h6, _⟩ | ⟨q2, h6, h7⟩
      · rw [h6] at h2'; omega
      · rw [h6] at h2'
        have : q2 = q' := by omega
        subst this
        rw [rts_drop m _ _ q2 (by rw [h7]; congr 1; omega), List.drop_drop]
        congr 2
        omega
    · intro p hp
      rcases List.mem_cons.1 hp with rfl | hp
      · exact hk
      · exact i2 p hp

/-- What l11End gives. -/
def EndOk (xs : List R3) (k0 : Nat) (en : Int) (ok : Bool) : Prop :=
  (ok = true ∧ ∃ q : Nat, en = ((k0 + q : Nat) : Int) ∧ tPosAt fMany 1 k0 (xs.drop k0) = ((k0 + q : Nat) : Int) ∧ ((xs.drop k0).take q).all fOkN = true) ∨
  (ok = false ∧ ∀ q : Nat, tPosAt fMany 1 k0 (xs.drop k0) = ((k0 + q : Nat) : Int) → ((xs.drop k0).take q).all fOkN = false)
def EndPost (xs : List R3) (k0 : Nat) (w : World) (e : Ending) (w' : World) : Prop := (∃ (en : Int) (ok : Bool), e = .returned (.tuple #[.int .i64 en, .bool ok]) ∧ EndOk xs k0 en ok) ∧ Below w.heap.size w w'
theorem tPosAt_ge {l : List R3} {op k p : Nat} (h : tPosAt fMany op k l = (p : Int)) : k ≤ p := by
  rcases tPosAt_shift fMany l op k 0 with ⟨h1, _⟩ | ⟨q, h1, _⟩
  · rw [h1] at h; omega
  · rw [h1] at h; omega
theorem all_false {xs : List R3} {k0 k q : Nat} {x : R3} (hx : xs[k]? = some x) (h0 : k0 ≤ k) (hq : k + 1 ≤ k0 + q) (hb : fOkN x = false) : ((xs.drop k0).take q).all fOkN = false := by
  rw [Bool.eq_false_iff]
  intro hh
  have := List.all_eq_true.1 hh x (List.mem_of_getElem? (i := k - k0) (by rw [List.getElem?_take, if_pos (by omega), List.getElem?_drop, show k0 + (k - k0) = k by omega]; exact hx))
  rw [hb] at this; cases this
theorem all_next {xs : List R3} {k0 k : Nat} {x : R3} (hx : xs[k]? = some x) (h0 : k0 ≤ k) (h : ((xs.drop k0).take (k - k0)).all fOkN = true) (hb : fOkN x = true) : ((xs.drop k0).take (k + 1 - k0)).all fOkN = true := by
  rw [show k + 1 - k0 = (k - k0) + 1 by omega, List.take_add_one, List.getElem?_drop, show k0 + (k - k0) = k by omega, hx, List.all_append, h]
  simp [hb]

set_option maxRecDepth 100000 in
set_option maxHeartbeats 1000000 in
theorem l11End_any (A : Option Addr) (n c k0 : Nat) (kk : Int) (hkk : kk = (k0 : Int)) (xs : List R3) (w : World) (ha : Args 3 w A n (rows R3.vs xs)) (hn : n ≤ 1048576) (hk0 : k0 ≤ n) :
    Calls Try.prog 170 #[.slice A n c, .int .i64 kk] w (EndPost xs k0 w) := by
  subst hkk
  have HL : Hid (xs.length = n) := by have := ha.1; rw [rows_len R3.vs_len] at this; unfold Hid; omega
  go_enter Try.func170, Try.ntmps170
  go_wp2
  go_loopw [1, 6] (fun i o wr => ∃ k op : Nat, k0 ≤ k ∧ k ≤ n ∧ op ≤ 5 * k + 1 ∧ i = .int .i64 k ∧ o = .int .i64 op ∧ Below w.heap.size w wr ∧ Hid (tPosAt fMany 1 k0 (xs.drop k0) = tPosAt fMany op k (xs.drop k)) ∧ Hid (((xs.drop k0).take (k - k0)).all fOkN = true)) (fun i _ _ => n - (intOf i).toNat)
  case atStart => exact ⟨k0, 1, Nat.le_refl _, hk0, by omega, rfl, rfl, Below.refl _ _, rfl, by simp [Hid]⟩
  case round =>
    obtain ⟨k, op, hk, hkn, hop, rfl, rfl, hB, HT, HA⟩ := hrel
    by_cases ho : op = 0
    · subst ho
      go_wp2
      go_ret2
      refine ⟨⟨_, _, rfl, .inl ⟨rfl, k - k0, ?_, ?_, HA.out⟩⟩, hB⟩
      · rw [Nat.add_sub_cancel' hk]
      · rw [Nat.add_sub_cancel' hk, HT.out, tPosAt_zero]
    · have ho1 : (0 : Int) < (op : Int) := by omega
      obtain ⟨op, rfl⟩ : ∃ q, op = q + 1 := ⟨op - 1, by omega⟩
      by_cases hlt : k < n
      · obtain ⟨b, off, rfl, hs⟩ := ha.sl hlt
        obtain ⟨x, HX⟩ := hget HL hlt
        have HAT := Lib.hid (At3.of (hs.below' hB) HX.out)
        have hkn' : ((k : Int) == (n : Int)) = false := by simp; omega
        have hk0' : (0 : Int) ≤ (k : Int) := by omega
        have hkl' : (k : Int) < (n : Int) := by omega
        have HT2 : Hid (tPosAt fMany 1 k0 (xs.drop k0) = tPosAt fMany (op + fMany x) (k + 1) (xs.drop (k + 1))) := by unfold Hid; rw [HT.out, drop_at HX.out, tPosAt_succ]
        clear ho
        rcases Bool.eq_false_or_eq_true (fOkN x) with hok | hok
        · have HA2 := Lib.hid (all_next HX.out hk HA.out hok)
          have hm := fMany_le hok
          have HOK := Lib.hid hok
          clear hok
          go_wp2_with fail
          refine (l11Node_is _ _ x true HOK.out _ HAT.out).mono ?_
          rintro e w1 ⟨rfl, b1⟩
          have B1 := below_step hB b1
          have HAT1 := Lib.hid (At3.of (hs.below' B1) HX.out)
          go_wp2_with fail
          refine (l11Many_any _ _ x HOK.out _ HAT1.out).mono ?_
          rintro e w2 ⟨rfl, rfl⟩
          go_wp2
          go_roundw
          case rel => exact ⟨k + 1, op + fMany x, by omega, by omega, by omega, by go_num, by congr 1; omega, B1, HT2, HA2⟩
          case measure => simp [intOf]; omega
        · have HOK := Lib.hid hok
          have HN : Hid (∀ q : Nat, tPosAt fMany 1 k0 (xs.drop k0) = ((k0 + q : Nat) : Int) → ((xs.drop k0).take q).all fOkN = false) := fun q hq => all_false HX.out hk (by rw [HT2.out] at hq; exact tPosAt_ge hq) HOK.out
          clear hok
          go_wp2_with fail
          refine (l11Node_is _ _ x false HOK.out _ HAT.out).mono ?_
          rintro e w1 ⟨rfl, b1⟩
          have B1 := below_step hB b1
          go_wp2
          go_ret2
          exact ⟨⟨_, _, rfl, .inr ⟨rfl, HN.out⟩⟩, B1⟩
      · have hkn' : ((k : Int) == (n : Int)) = true := by simp; omega
        have HN : Hid (∀ q : Nat, tPosAt fMany 1 k0 (xs.drop k0) = ((k0 + q : Nat) : Int) → ((xs.drop k0).take q).all fOkN = false) := fun q hq => by
          rw [HT.out, List.drop_of_length_le (by have := HL.out; omega), tPosAt_none] at hq; omega
        go_wp2
        go_ret2
        exact ⟨⟨_, _, rfl, .inr ⟨rfl, HN.out⟩⟩, hB⟩

theorem infoIntK : (Try.prog.info? 3).map (fun i => (i.zero, i.size, i.bytes)) = some (some (Value.int .i64 0), 1, 8) := by kernel_rfl

set_option maxRecDepth 100000 in
set_option maxHeartbeats 1000000 in
theorem l11Parts_any (A : Option Addr) (n c k b : Nat) (kk : Int) (hkk : kk = (k : Int)) (xs : List R3) (x : R3) (hx : xs[k]? = some x) (hok : xs.all fOkN = true) (hfit : fit fMany (fMany x + b) (xs.drop (k + 1)) = true) (w : World) (ha : Args 3 w A n (rows R3.vs xs)) (hn : n ≤ 1048576) :
    Calls Try.prog 172 #[.slice A n c, .int .i64 kk] w fun e w' => ∃ v, e = .returned v ∧ w'.ownsRow w.heap.size 3 1 v (fMany x) ((poss (fMany x) (k + 1) (xs.drop (k + 1))).map fun p : Nat => Value.int .i64 p) ∧ Below w.heap.size w w' := by
  subst hkk
  have HL : Hid (xs.length = n) := by have := ha.1; rw [rows_len R3.vs_len] at this; unfold Hid; omega
  have HX := Lib.hid hx
  have hlt : k < n := by have := (List.getElem?_eq_some_iff.1 hx).1; have := HL.out; omega
  have HOKS := Lib.hid hok
  have hokx : fOkN x = true := List.all_eq_true.1 hok x (List.mem_of_getElem? hx)
  have hm := fMany_le hokx
  have HOK := Lib.hid hokx
  obtain ⟨m, hmm⟩ : ∃ m, m = fMany x := ⟨_, rfl⟩
  rw [← hmm] at hm hfit ⊢
  have HM := Lib.hid hmm
  have HF := Lib.hid hfit
  have own0 := own_empty w 3 1
  have B0 := laid_below w (.cells #[] 3)
  have HAT : Hid (∀ W, Below w.heap.size w W → ∃ bb off, A = some ⟨bb, off, none⟩ ∧ At3 W bb (off + k * 3) x) := fun W hW => by
    obtain ⟨bb, off, e, hs⟩ := ha.sl hlt
    exact ⟨bb, off, e, At3.of (hs.below' hW) HX.out⟩
  obtain ⟨bb, off, rfl, hat⟩ := HAT.out _ B0
  have HAT0 := Lib.hid hat
  have hk0' : (0 : Int) ≤ (k : Int) := by omega
  have hkl' : (k : Int) < (n : Int) := by omega
  clear hx hok hokx hmm hfit hat
  go_enter Try.func172, Try.ntmps172
  go_wp2_with fail
  refine (l11Many_any _ _ x HOK.out _ HAT0.out).mono ?_
  rintro e w1 ⟨rfl, rfl⟩
  rw [← HM.out]
  go_wp2
  go_loopw [5, 6, 7] (fun o p i wr => ∃ (j q : Nat) (A1 : Option Addr) (c1 : Nat) (ps : List Nat), j ≤ m ∧ q ≤ n ∧ i = .int .i64 ((m : Int) - j) ∧ p = .int .i64 q ∧ o = .slice A1 j c1 ∧ wr.ownsRow w.heap.size 3 1 (.slice A1 j c1) j (ps.map fun p : Nat => Value.int .i64 p) ∧ Below w.heap.size w wr ∧ Hid (poss m (k + 1) (xs.drop (k + 1)) = ps ++ poss (m - j) q (xs.drop q)) ∧ Hid (fit fMany (m - j + b) (xs.drop q) = true)) (fun _ _ i _ => (intOf i).toNat)
  case atStart => exact ⟨0, k + 1, _, _, [], Nat.zero_le _, by omega, by simp, by go_num, rfl, own0, B0, by simp [Hid], HF⟩
  case round =>
    obtain ⟨j, q, A1, c1, ps, hj, hq, rfl, rfl, rfl, own, hB, HP, HF2⟩ := hrel
    clear own0 B0 HAT0
    by_cases hjm : j < m
    · have hgt : (0 : Int) < (m : Int) - (j : Int) := by omega
      obtain ⟨z, h1, h2, h3, h4, h5⟩ := fit_split fMany (xs.drop q) 1 (m - (j + 1) + b) q (by have := HF2.out; rw [← this]; congr 1; omega)
      rw [List.length_drop] at h1
      rw [List.drop_drop] at h4
      have HZ := Lib.hid h2
      have HPP : Hid (poss m (k + 1) (xs.drop (k + 1)) = (ps ++ [q]) ++ poss (m - (j + 1)) (q + z) (xs.drop (q + z))) := by
        have hz0 : (tPosAt fMany 1 0 (xs.drop q)).toNat = z := by rw [tPosAt_from h2 0]; simp
        unfold Hid
        rw [HP.out, show m - j = (m - (j + 1)) + 1 by omega, poss, hz0, List.drop_drop, List.append_assoc]
        rfl
      have H4 := Lib.hid h4
      have hqz : q + z ≤ n := by have := HL.out; omega
      clear h1 h2 h3 h4 h5
      go_wp2_with (at_builtin; refine wpList_app rfl _ _ _ rfl Try.underlying145 infoIntK rfl (by omega) w wr own hB rfl 1 #[.int .i64 (q : Int)] rfl (laid_below _ _) (heap_alloc_new _ _) rfl (by simp [Value.oneCell']) (by omega) (by unfold maxLen; omega) (by omega) ?_; intro g cap w2 own2 B2; clear own hB)
      refine (l11End_any _ n c q _ rfl xs _ (ha.below B2) hn hq).mono ?_
      rintro e w3 ⟨⟨en, ok, rfl, hen⟩, b3⟩
      have B3 := below_step B2 b3
      have own3 := own_below' own2 b3
      clear own2 b3
      rcases hen with ⟨rfl, z2, rfl, hz2, -⟩ | ⟨rfl, hno⟩
      rotate_left
      · exfalso
        have h6 := hno z HZ.out
        rw [Bool.eq_false_iff] at h6
        exact h6 (List.all_eq_true.2 fun y hy => List.all_eq_true.1 HOKS.out y (List.mem_of_mem_drop (List.mem_of_mem_take hy)))
      · obtain rfl : z2 = z := by have := HZ.out; rw [hz2] at this; omega
        clear hz2
        go_wp2
        go_roundw
        case rel => exact ⟨j + 1, q + z2, _, _, ps ++ [q], by omega, hqz, by congr 1; omega, rfl, rfl, by rw [List.map_append]; exact own3, B3, HPP, H4⟩
        case measure => simp [intOf]; omega
    · obtain rfl : j = m := by omega
      have HE : Hid (poss j (k + 1) (xs.drop (k + 1)) = ps) := by unfold Hid; rw [HP.out, Nat.sub_self, poss, List.append_nil]
      go_wp2
      go_ret
      rw [HE.out]
      exact ⟨_, rfl, own, hB⟩
end Go.Proofs.Ytfmfpknigafnoaa
