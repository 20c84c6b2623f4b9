/- The law FnExactMultiConfigText returns true for every input, and each argument reads afterwards as before: the proof, part 4. No conditions. -/
import Derived.Test.YtgcedfpjgdeakaaDoorMultiConfigTextZc
import Derived.Lib.Join
import Derived.Lib.ItoaNum
/- The text of a loop program, in plain words. -/
namespace Go.Proofs.YtgcedfpjgdeakaaDoor
open Go.RowKit
set_option linter.all false

def decT (n : Int) : List UInt8 := Lib.decDigits n.toNat
/-- The text of a command with the text of its body. -/
def cmdT (x : R3) (body : List UInt8) : List UInt8 :=
  if x.a = 0 then 33 :: decT x.b
  else if x.a = 1 then 43 :: decT x.b
  else if x.a = 2 then decT x.b ++ 61 :: decT x.c
  else if x.a = 3 then decT x.b ++ 42 :: 40 :: (body ++ [41])
  else decT x.b ++ 63 :: 40 :: (body ++ [41])
def textsL : List R3 → List (List UInt8)
  | [] => []
  | x :: l => cmdT x (Lib.join (textsL (l.take (bodyLen x))) [59]) :: textsL (l.drop (bodyLen x))
  termination_by l => l.length
  decreasing_by all_goals simp_wf; try omega
def textL (l : List R3) : List UInt8 := Lib.join (textsL l) [59]
def tailT (l : List R3) : List UInt8 := Lib.joinTail [59] (textsL l)
theorem textsL_nil : textsL [] = [] := by rw [textsL]
theorem textsL_cons (x : R3) (l : List R3) : textsL (x :: l) = cmdT x (textL (l.take (bodyLen x))) :: textsL (l.drop (bodyLen x)) := by rw [textsL]; rfl
theorem textL_nil : textL [] = [] := by unfold textL; rw [textsL_nil]; rfl
theorem textL_cons (x : R3) (l : List R3) : textL (x :: l) = cmdT x (textL (l.take (bodyLen x))) ++ tailT (l.drop (bodyLen x)) := by
  conv => lhs; unfold textL
  rw [textsL_cons, Lib.join_cons]; rfl
theorem tailT_nil : tailT [] = [] := by unfold tailT; rw [textsL_nil]; rfl
theorem tailT_cons (x : R3) (l : List R3) : tailT (x :: l) = 59 :: textL (x :: l) := by
  unfold tailT textL
  rw [textsL_cons, Lib.join_cons]
  simp [Lib.joinTail]
theorem decT_len {n : Int} (h : 0 ≤ n ∧ n ≤ 15) : (decT n).length ≤ 2 := by
  unfold decT
  by_cases h1 : n.toNat < 10
  · rw [Lib.decDigits_one h1]; simp
  · rw [Lib.decDigits_two h1 (by omega)]; simp
theorem cmdT_len {x : R3} (body : List UInt8) (hb : 0 ≤ x.b ∧ x.b ≤ 15) (hc : x.a = 2 → 0 ≤ x.c ∧ x.c ≤ 15) : (cmdT x body).length ≤ 5 + body.length := by
  have h1 := decT_len hb
  unfold cmdT
  split
  · rw [List.length_cons]; omega
  split
  · rw [List.length_cons]; omega
  split
  · rename_i h2
    have h3 := decT_len (hc h2)
    rw [List.length_append, List.length_cons]; omega
  split
  · rw [List.length_append, List.length_cons, List.length_cons, List.length_append, List.length_singleton]; omega
  · rw [List.length_append, List.length_cons, List.length_cons, List.length_append, List.length_singleton]; omega
theorem tail_len (l : List R3) : (textL l).length ≤ (tailT l).length := by
  cases l with
  | nil => rw [textL_nil]; simp
  | cons x l => rw [tailT_cons]; simp
theorem tailT_len (N : Nat) : ∀ (d : Nat) (l : List R3), l.length ≤ N → vl d l = true → (tailT l).length ≤ 6 * l.length := by
  induction N with
  | zero =>
    intro d l h _
    have : l = [] := List.length_eq_zero_iff.1 (by omega)
    subst this
    rw [tailT_nil]; simp
  | succ N ih =>
    intro d l h hv
    cases l with
    | nil => rw [tailT_nil]; simp
    | cons x l =>
      obtain ⟨h1, h2, h3⟩ := vl_kind hv
      obtain ⟨g1, g2, g3⟩ := vl_step (d := d) (k := 0) (x := x) (xs := x :: l) rfl (by rw [List.drop_zero]; exact hv)
      rw [List.length_cons] at g1 h
      have e1 : (x :: l).drop (0 + 1 + bodyLen x) = l.drop (bodyLen x) := by rw [show 0 + 1 + bodyLen x = bodyLen x + 1 by omega, List.drop_succ_cons]
      rw [e1] at g2
      have hrest := ih d (l.drop (bodyLen x)) (by rw [List.length_drop]; omega) g2
      rw [List.length_drop] at hrest
      have hbody : (textL (l.take (bodyLen x))).length ≤ 6 * bodyLen x := by
        cases hl : isLp x with
        | false => rw [bodyLen_no hl, List.take_zero, textL_nil]; simp
        | true =>
          have hb := (g3 hl).1
          rw [show (x :: l).drop (0 + 1) = l from rfl] at hb
          have h5 := ih (d - 1) (l.take (bodyLen x)) (by rw [List.length_take]; omega) hb
          have h6 := tail_len (l.take (bodyLen x))
          rw [List.length_take] at h5
          omega
      have hcmd := cmdT_len (x := x) (textL (l.take (bodyLen x))) ⟨h1, h2⟩ (fun e => by
        rcases h3 with h | h | h | h | h
        · omega
        · omega
        · omega
        · omega
        · exact h.2)
      rw [tailT_cons, textL_cons, List.length_cons, List.length_append, List.length_cons]
      omega
theorem textL_len {d : Nat} {l : List R3} (h : vl d l = true) : (textL l).length ≤ 6 * l.length := Nat.le_trans (tail_len l) (tailT_len _ d l (Nat.le_refl _) h)

/-- The text of a loop program, if it is valid. -/
def loopTextOf (xs : List R3) : List UInt8 := if validL xs then textL xs else []
theorem loopTextOf_no {xs : List R3} (h : validL xs = false) : loopTextOf xs = [] := by unfold loopTextOf; rw [h]; rfl
theorem loopTextOf_yes {xs : List R3} (h : validL xs = true) : loopTextOf xs = textL xs := by unfold loopTextOf; rw [h]; rfl
theorem cat_ba (a b : List UInt8) : (⟨a.toArray⟩ ++ ⟨b.toArray⟩ : ByteArray) = ⟨(a ++ b).toArray⟩ := by rw [ByteArray.mk_append_mk]
theorem run_cat {P : Program} (a b : List UInt8) (h : a.length + b.length ≤ 9000000) (w : World) : (Op.stringOp .add ⟨a.toArray⟩ ⟨b.toArray⟩).run P w = .ok (.string ⟨(a ++ b).toArray⟩) w := by
  rw [run_string_add_sum w _ _ (by simp [ByteArray.size]; omega), cat_ba]
end Go.Proofs.YtgcedfpjgdeakaaDoor

/- Machines with several tapes and their configurations, in plain Lean: which are valid, and the text of a configuration. -/
namespace Go.Proofs.YtgcedfpjgdeakaaDoor
open Go.RowKit
set_option linter.all false

def sideOk (S : Int) (l : List Int) : Bool := decide (l.length ≤ 200) && (l.all (inB · 0 (S - 1)) && decide (l.length = 0 ∨ l.getLastD 0 ≠ 0))
def rowOk (t lo hi : Int) (l : List Int) : Bool := decide ((l.length : Int) = t) && l.all (inB · lo hi)
def mrOk (t s q : Int) (r : DMultiRule) : Bool := inB r.f0 0 (q - 1) && (inB r.f4 0 (q - 1) && (rowOk t 0 (s - 1) r.f1 && (rowOk t 0 (s - 1) r.f2 && rowOk t (-1) 1 r.f3)))
def cmpI : List Int → List Int → Int
  | [], [] => 0
  | [], _ :: _ => -1
  | _ :: _, [] => 1
  | x :: xs, y :: ys => if x < y then -1 else if y < x then 1 else cmpI xs ys
def mrBefore (a b : DMultiRule) : Bool := decide (a.f0 < b.f0) || (decide (a.f0 = b.f0) && decide (cmpI a.f1 b.f1 < 0))
/-- The rule at a place is valid, and stands behind the one before it. -/
def mrAt (t s q : Int) (rs : List DMultiRule) (i : Nat) : Bool :=
  match rs[i]? with
  | none => true
  | some r => mrOk t s q r && (decide (i = 0) || match rs[i - 1]? with
    | none => true
    | some p => mrBefore p r)
theorem mrAt_zero {t s q : Int} {rs : List DMultiRule} {r : DMultiRule} (h : rs[0]? = some r) : mrAt t s q rs 0 = mrOk t s q r := by unfold mrAt; rw [h]; simp
theorem mrAt_succ {t s q : Int} {rs : List DMultiRule} {p r : DMultiRule} {i : Nat} (h : rs[i + 1]? = some r) (hp : rs[i]? = some p) : mrAt t s q rs (i + 1) = (mrOk t s q r && mrBefore p r) := by
  unfold mrAt; rw [h]
  simp only [Nat.add_sub_cancel, hp]
  rw [decide_eq_false (by omega), Bool.false_or]
def multiOk (t s q : Int) (rs : List DMultiRule) : Bool := inB t 2 3 && (inB s 2 3 && (inB q 1 16 && (decide (rs.length ≤ 60) && (List.range rs.length).all (mrAt t s q rs))))
theorem multi_all {t s q : Int} {rs : List DMultiRule} (h : ∀ j, j < rs.length → mrAt t s q rs j = true) : (List.range rs.length).all (mrAt t s q rs) = true := by
  rw [List.all_eq_true]; intro j hj; exact h j (List.mem_range.1 hj)
theorem multi_no {t s q : Int} {rs : List DMultiRule} {j : Nat} (hj : j < rs.length) (h : mrAt t s q rs j = false) : (List.range rs.length).all (mrAt t s q rs) = false := by
  rw [Bool.eq_false_iff]; intro hall
  have := List.all_eq_true.1 hall j (List.mem_range.2 hj)
  rw [h] at this; cases this
def tpOk (s : Int) (x : DTape) : Bool := sideOk s x.f0 && sideOk s x.f1
def goodC (t s q st : Int) (tps : List DTape) : Bool := inB st 0 (q - 1) && (decide ((tps.length : Int) = t) && tps.all (tpOk s))
def mcOk (t s q : Int) (rs : List DMultiRule) (st : Int) (tps : List DTape) : Bool := multiOk t s q rs && goodC t s q st tps
def digT (l : List Int) : List UInt8 := l.map fun x => UInt8.ofNat (48 + x.toNat)
theorem digT_len (l : List Int) : (digT l).length = l.length := by simp [digT]
def tapeT (x : DTape) : List UInt8 := 124 :: (digT x.f0.reverse ++ 94 :: digT x.f1)
def mcT (st : Int) (tps : List DTape) : List UInt8 := 40 :: (decT st ++ 41 :: tps.flatMap tapeT)
def mcText (t s q : Int) (rs : List DMultiRule) (st : Int) (tps : List DTape) : ByteArray := if mcOk t s q rs st tps then ⟨(mcT st tps).toArray⟩ else ⟨#[]⟩
theorem mcText_no {t s q : Int} {rs : List DMultiRule} {st : Int} {tps : List DTape} (h : mcOk t s q rs st tps = false) : mcText t s q rs st tps = ⟨#[]⟩ := by unfold mcText; rw [h]; rfl
theorem mcText_yes {t s q : Int} {rs : List DMultiRule} {st : Int} {tps : List DTape} (h : mcOk t s q rs st tps = true) : mcText t s q rs st tps = ⟨(mcT st tps).toArray⟩ := by unfold mcText; rw [h]; rfl

theorem cmpI_step {a b : List Int} {k : Nat} {x y : Int} (ha : a[k]? = some x) (hb : b[k]? = some y) : cmpI (a.drop k) (b.drop k) = if x < y then -1 else if y < x then 1 else cmpI (a.drop (k + 1)) (b.drop (k + 1)) := by
  obtain ⟨h1, e1⟩ := List.getElem?_eq_some_iff.1 ha
  obtain ⟨h2, e2⟩ := List.getElem?_eq_some_iff.1 hb
  rw [List.drop_eq_getElem_cons h1, List.drop_eq_getElem_cons h2, cmpI, e1, e2]
theorem cmpI_end (a b : List Int) (k : Nat) (h : a.length ≤ k ∨ b.length ≤ k) (ha : k ≤ a.length) (hb : k ≤ b.length) : cmpI (a.drop k) (b.drop k) = if a.length < b.length then -1 else if b.length < a.length then 1 else 0 := by
  rcases Nat.lt_trichotomy a.length b.length with h1 | h1 | h1
  · rw [if_pos h1, List.drop_of_length_le (by omega), List.drop_eq_getElem_cons (by omega)]; rfl
  · rw [if_neg (by omega), if_neg (by omega), List.drop_of_length_le (by omega), List.drop_of_length_le (by omega)]; rfl
  · rw [if_neg (by omega), if_pos h1, List.drop_of_length_le (l := b) (by omega), List.drop_eq_getElem_cons (by omega)]; rfl
theorem getLastD_at {l : List Int} {x : Int} {k : Nat} (h : l[k]? = some x) (hl : l.length = k + 1) : l.getLastD 0 = x := by
  rw [List.getLastD_eq_getLast?, List.getLast?_eq_getElem?, hl, Nat.add_sub_cancel, h]; rfl
/-- A side is right where its numbers are and its last one is no blank. -/
theorem sideOk_of {S : Int} {l : List Int} (h1 : l.length ≤ 200) (h2 : l.all (inB · 0 (S - 1)) = true) : sideOk S l = decide (l.length = 0 ∨ l.getLastD 0 ≠ 0) := by unfold sideOk; rw [decide_eq_true h1, h2]; rfl
end Go.Proofs.YtgcedfpjgdeakaaDoor

/- Rows, sides and the order of rules by the reference: l06Row, l06Side, l01Compare, l06Before. -/
namespace Go.Proofs.YtgcedfpjgdeakaaDoor
open Go.RowKit
set_option linter.all false

/-- Only draws lie between. -/
def QD (w w' : World) : Prop := ∃ q, w' = w.drewN q
theorem QD.refl (w : World) : QD w w := ⟨0, rfl⟩
theorem QD.step {w w' : World} (h : QD w w') (n : Nat) : QD w (w'.drewN n) := by obtain ⟨q, rfl⟩ := h; exact ⟨q + n, by rw [World.drewN_drewN]⟩
theorem QD.trans {a b c : World} (h : QD a b) (k : QD b c) : QD a c := by obtain ⟨q, rfl⟩ := k; exact h.step q
theorem QD.below {w w' : World} (h : QD w w') : Below w.heap.size w w' := by obtain ⟨q, hq⟩ := h; exact quiet_below hq

theorem l06Row_is (b off n c : Nat) (xs : List Int) (t lo hi : Int) (v : Bool) (hv : rowOk t lo hi xs = v) (w : World) (hs : Sl w b off (xs.map (.int .i64))) (hl : xs.length = n) (hn : n ≤ 1048576) :
    Calls Tryd.prog 47 #[.slice (some ⟨b, off, none⟩) n c, .int .i64 t, .int .i64 lo, .int .i64 hi] w fun e w' => e = .returned (.bool v) ∧ w = w' := by
  have HL := Lib.hid hl
  by_cases ht : (n : Int) = t
  rotate_left
  · have HF : Hid (v = false) := by unfold Hid; rw [← hv]; unfold rowOk; rw [hl, decide_eq_false ht, Bool.false_and]
    have hne : ((n : Int) != t) = true := by simpa using ht
    clear hv ht hl
    go_enter Tryd.func47, Tryd.ntmps47
    go_wp2_with fail
    go_ret
    exact ⟨ret_bool HF.out.symm, rfl⟩
  have HV : Hid (v = xs.all (inB · lo hi)) := by unfold Hid; rw [← hv]; unfold rowOk; rw [hl, decide_eq_true ht, Bool.true_and]
  have hne : ((n : Int) != t) = false := by simpa using ht
  clear hv hl
  subst ht
  go_enter Tryd.func47, Tryd.ntmps47
  go_wp2_with fail
  go_loop [9] (fun i => ∃ k : Nat, k ≤ n ∧ i = .int .i64 k ∧ Hid (∀ j x, j < k → xs[j]? = some x → inB x lo hi = true)) (fun i => n - (intOf i).toNat)
  case atStart => exact ⟨0, Nat.zero_le _, rfl, by intro j x hj; omega⟩
  case round =>
    obtain ⟨k, hk, rfl, HR⟩ := hrel
    by_cases hlt : k < n
    · obtain ⟨y, HY, hy⟩ := map_at (Value.int .i64) xs (k := k) (by have := HL.out; omega)
      have hcb := hs.at hy
      clear hy
      cases hb : inB y lo hi with
      | false =>
        have HB := Lib.hid hb; clear hb
        have HF : Hid (v = false) := by unfold Hid; rw [HV.out]; exact all_no HY.out HB.out
        go_wp2_with fail
        refine (l00In_is y lo hi false HB.out _).mono ?_
        rintro e w' ⟨rfl, rfl⟩
        go_wp2_with fail
        go_ret
        exact ⟨ret_bool HF.out.symm, rfl⟩
      | true =>
        have HB := Lib.hid hb; clear hb
        go_wp2_with fail
        refine (l00In_is y lo hi true HB.out _).mono ?_
        rintro e w' ⟨rfl, rfl⟩
        go_wp2_with fail
        go_round
        case rel => exact ⟨k + 1, by omega, by go_num, by
          intro j x' hj hx'
          by_cases ej : j = k
          · subst ej
            have h2 := HY.out
            rw [hx'] at h2; injection h2 with h2; subst h2; exact HB.out
          · exact HR.out j x' (by omega) hx'⟩
        case measure => simp [intOf]; omega
    · have HF : Hid (v = true) := by
        unfold Hid
        rw [HV.out, List.all_eq_true]
        intro x hx
        obtain ⟨j, hj⟩ := List.getElem?_of_mem hx
        exact HR.out j x (by have := HL.out; have := (List.getElem?_eq_some_iff.1 hj).1; omega) hj
      go_wp2_with fail
      go_ret
      exact ⟨ret_bool HF.out.symm, rfl⟩

set_option maxRecDepth 100000 in
theorem l06Side_is (b off n c : Nat) (xs : List Int) (S : Int) (v : Bool) (hv : sideOk S xs = v) (w : World) (hs : Sl w b off (xs.map (.int .i64))) (hl : xs.length = n) (hn : n ≤ 1048576) (hS : 2 ≤ S ∧ S ≤ 3) :
    Calls Tryd.prog 49 #[.slice (some ⟨b, off, none⟩) n c, .int .i64 S] w fun e w' => e = .returned (.bool v) ∧ w = w' := by
  have HL := Lib.hid hl
  by_cases h2 : n ≤ 200
  rotate_left
  · have HF : Hid (v = false) := by unfold Hid; rw [← hv]; unfold sideOk; rw [hl, decide_eq_false h2, Bool.false_and]
    have hI : (200 : Int) < (n : Int) := by omega
    clear hv hl
    go_enter Tryd.func49, Tryd.ntmps49
    go_wp2_with fail
    go_ret
    exact ⟨ret_bool HF.out.symm, rfl⟩
  have HV : Hid (v = (xs.all (inB · 0 (S - 1)) && decide (xs.length = 0 ∨ xs.getLastD 0 ≠ 0))) := by unfold Hid; rw [← hv]; unfold sideOk; rw [hl, decide_eq_true h2, Bool.true_and]
  have hI : ¬ (200 : Int) < (n : Int) := by omega
  have hwS : IntKind.i64.wrap (S - 1) = S - 1 := IntWalk.i64_in _ (by omega)
  clear hv hl
  go_enter Tryd.func49, Tryd.ntmps49
  go_wp2_with fail
  go_loop [5] (fun i => ∃ k : Nat, k ≤ n ∧ i = .int .i64 k ∧ Hid (∀ j x, j < k → xs[j]? = some x → inB x 0 (S - 1) = true)) (fun i => n - (intOf i).toNat)
  case atStart => exact ⟨0, Nat.zero_le _, rfl, by intro j x hj; omega⟩
  case round =>
    obtain ⟨k, hk, rfl, HR⟩ := hrel
    by_cases hlt : k < n
    · obtain ⟨y, HY, hy⟩ := map_at (Value.int .i64) xs (k := k) (by have := HL.out; omega)
      have hcb := hs.at hy
      clear hy
      cases hb : inB y 0 (S - 1) with
      | false =>
        have HB := Lib.hid hb; clear hb
        have HF : Hid (v = false) := by unfold Hid; rw [HV.out, all_no HY.out HB.out]; rfl
        go_wp2_with fail
        refine (l00In_is y 0 (S - 1) false HB.out _).mono ?_
        rintro e w' ⟨rfl, rfl⟩
        go_wp2_with fail
        go_ret
        exact ⟨ret_bool HF.out.symm, rfl⟩
      | true =>
        have HB := Lib.hid hb; clear hb
        go_wp2_with fail
        refine (l00In_is y 0 (S - 1) true HB.out _).mono ?_
        rintro e w' ⟨rfl, rfl⟩
        go_wp2_with fail
        go_round
        case rel => exact ⟨k + 1, by omega, by go_num, by
          intro j x' hj hx'
          by_cases ej : j = k
          · subst ej
            have h2 := HY.out
            rw [hx'] at h2; injection h2 with h2; subst h2; exact HB.out
          · exact HR.out j x' (by omega) hx'⟩
        case measure => simp [intOf]; omega
    · have HF : Hid (v = decide (xs.length = 0 ∨ xs.getLastD 0 ≠ 0)) := by
        unfold Hid
        rw [HV.out]
        have : xs.all (inB · 0 (S - 1)) = true := by
          rw [List.all_eq_true]
          intro x hx
          obtain ⟨j, hj⟩ := List.getElem?_of_mem hx
          exact HR.out j x (by have := HL.out; have := (List.getElem?_eq_some_iff.1 hj).1; omega) hj
        rw [this, Bool.true_and]
      rcases Nat.eq_zero_or_pos n with h0 | h0
      · subst h0
        have HF2 : Hid (v = true) := by unfold Hid; rw [HF.out]; exact decide_eq_true (.inl HL.out)
        go_wp2_with fail
        go_ret
        exact ⟨ret_bool HF2.out.symm, rfl⟩
      · obtain ⟨p, hp⟩ : ∃ p, n = p + 1 := ⟨n - 1, by omega⟩
        obtain ⟨y, HY, hy⟩ := map_at (Value.int .i64) xs (k := p) (by have := HL.out; omega)
        have hcb := hs.at hy
        have HF2 : Hid (v = (y != 0)) := by
          unfold Hid
          rw [HF.out, getLastD_at HY.out (by rw [HL.out, hp])]
          by_cases hy0 : y = 0
          · rw [decide_eq_false (by intro e; rcases e with e | e; · have := HL.out; omega
                                    · exact e hy0)]; simp [hy0]
          · rw [decide_eq_true (.inr hy0)]; simp [hy0]
        obtain rfl : k = n := by omega
        clear hy hk hlt HR h0 HF HV hs
        subst hp
        have hz : ((p : Int) + 1 == 0) = false := by rw [beq_eq_false_iff_ne]; omega
        go_wp2_with fail
        go_ret
        exact ⟨ret_bool HF2.out.symm, rfl⟩

set_option maxRecDepth 100000 in
set_option maxHeartbeats 1000000 in
theorem l01Compare_is (ba oa na ca bb ob nb cb : Nat) (a b : List Int) (z : Int) (hz : cmpI a b = z) (w : World) (ha : Sl w ba oa (a.map (.int .i64))) (hb : Sl w bb ob (b.map (.int .i64)))
    (la : a.length = na) (lb : b.length = nb) (hna : na ≤ 1048576) (hnb : nb ≤ 1048576) :
    Calls Tryd.prog 80 #[.slice (some ⟨ba, oa, none⟩) na ca, .slice (some ⟨bb, ob, none⟩) nb cb] w fun e w' => e = .returned (.int .i64 z) ∧ ∃ q, w' = w.drewN q := by
  have HA := Lib.hid la; have HB := Lib.hid lb; have HZ := Lib.hid hz
  clear la lb hz
  go_enter Tryd.func80, Tryd.ntmps80
  go_wp2_with fail
  go_loopw [5] (fun i wr => ∃ k : Nat, k ≤ na ∧ k ≤ nb ∧ i = .int .i64 k ∧ Hid (QD w wr) ∧ Hid (cmpI (a.drop k) (b.drop k) = z)) (fun i _ => na - (intOf i).toNat)
  case atStart => exact ⟨0, Nat.zero_le _, Nat.zero_le _, rfl, QD.refl _, HZ.out⟩
  case round =>
    obtain ⟨k, hka, hkb, rfl, HQ, HR⟩ := hrel
    have hat : Sl wr ba oa (a.map (.int .i64)) := by obtain ⟨q, hq⟩ := HQ.out; rw [hq]; exact ha.drewN q
    have hbt : Sl wr bb ob (b.map (.int .i64)) := by obtain ⟨q, hq⟩ := HQ.out; rw [hq]; exact hb.drewN q
    by_cases hlt : k < na ∧ k < nb
    · obtain ⟨h1, h2⟩ := hlt
      obtain ⟨x, HX, hx⟩ := map_at (Value.int .i64) a (k := k) (by have := HA.out; omega)
      obtain ⟨y, HY, hy⟩ := map_at (Value.int .i64) b (k := k) (by have := HB.out; omega)
      have hca := hat.at hx
      have hcb := hbt.at hy
      have HS := Lib.hid (cmpI_step HX.out HY.out)
      have h1I : (k : Int) < (na : Int) := by omega
      have h2I : (k : Int) < (nb : Int) := by omega
      clear hx hy hat hbt
      rcases Int.lt_trichotomy x y with h | h | h
      · have HF : Hid (z = -1) := by unfold Hid; rw [← HR.out, HS.out, if_pos h]
        have hd : decide (x < y) = true := decide_eq_true h
        clear h
        go_wp2_with fail
        go_quiet (fail)
        go_wp2_with fail
        go_ret
        exact ⟨ret_int HF.out.symm, HQ.out.step _⟩
      · have HF : Hid (cmpI (a.drop (k + 1)) (b.drop (k + 1)) = z) := by unfold Hid; rw [← HR.out, HS.out, if_neg (by omega), if_neg (by omega)]
        have hd : decide (x < y) = false := decide_eq_false (by omega)
        have hd2 : decide (y < x) = false := decide_eq_false (by omega)
        clear h
        go_wp2_with fail
        go_quiet (fail)
        have HQ2 := Lib.hid (HQ.out.step nq)
        have k0 : (wr.drewN nq).cell? ⟨ba, oa + k, none⟩ = some (.int .i64 x) := hca
        have k1 : (wr.drewN nq).cell? ⟨bb, ob + k, none⟩ = some (.int .i64 y) := hcb
        generalize wr.drewN nq = w1 at HQ2 k0 k1 ⊢
        clear hca hcb
        go_wp2_with fail
        go_quiet (fail)
        go_wp2_with fail
        go_roundw
        case rel => exact ⟨k + 1, by omega, by omega, by go_num, HQ2.out.step _, HF⟩
        case measure => simp [intOf]; omega
      · have HF : Hid (z = 1) := by unfold Hid; rw [← HR.out, HS.out, if_neg (by omega), if_pos h]
        have hd : decide (x < y) = false := decide_eq_false (by omega)
        have hd2 : decide (y < x) = true := decide_eq_true h
        clear h
        go_wp2_with fail
        go_quiet (fail)
        have HQ2 := Lib.hid (HQ.out.step nq)
        have k0 : (wr.drewN nq).cell? ⟨ba, oa + k, none⟩ = some (.int .i64 x) := hca
        have k1 : (wr.drewN nq).cell? ⟨bb, ob + k, none⟩ = some (.int .i64 y) := hcb
        generalize wr.drewN nq = w1 at HQ2 k0 k1 ⊢
        clear hca hcb
        go_wp2_with fail
        go_quiet (fail)
        go_wp2_with fail
        go_ret
        exact ⟨ret_int HF.out.symm, HQ2.out.step _⟩
    · have HE := Lib.hid (cmpI_end a b k (by have := HA.out; have := HB.out; omega) (by have := HA.out; omega) (by have := HB.out; omega))
      rw [HR.out, HA.out, HB.out] at HE
      rcases Nat.lt_trichotomy na nb with h | h | h
      · have HF : Hid (z = -1) := by unfold Hid; rw [HE.out, if_pos h]
        obtain rfl : k = na := by omega
        go_wp2_with fail
        go_ret
        exact ⟨ret_int HF.out.symm, HQ.out⟩
      · have HF : Hid (z = 0) := by unfold Hid; rw [HE.out, if_neg (by omega), if_neg (by omega)]
        subst h
        obtain rfl : k = na := by omega
        go_wp2_with fail
        go_ret
        exact ⟨ret_int HF.out.symm, HQ.out⟩
      · have HF : Hid (z = 1) := by unfold Hid; rw [HE.out, if_neg (by omega), if_pos h]
        obtain rfl : k = nb := by omega
        go_wp2_with fail
        go_ret
        exact ⟨ret_int HF.out.symm, HQ.out⟩

/-- The cells of a rule. -/
structure MrC (w : World) (g k : Nat) (e : EMultiRule) : Prop where
  c0 : w.cell? ⟨g, k, none⟩ = some (.int .i64 e.d.f0)
  c1 : w.cell? ⟨g, k + 1, none⟩ = some e.u1
  c2 : w.cell? ⟨g, k + 2, none⟩ = some e.u2
  c3 : w.cell? ⟨g, k + 3, none⟩ = some e.u3
  c4 : w.cell? ⟨g, k + 4, none⟩ = some (.int .i64 e.d.f4)
theorem mrC_of {w : World} {g : Nat} {es : List EMultiRule} {k : Nat} {e : EMultiRule} (hs : Sl w g 0 (rows EMultiRule.vs es)) (hk : es[k]? = some e) : MrC w g (k * 5) e := by
  have hh : ∀ j, j < 5 → ∀ v, e.vs[j]? = some v → w.cell? ⟨g, k * 5 + j, none⟩ = some v := by
    intro j hj v hv
    have := hs.at (j := k * 5 + j) (u := v) (by rw [rows_at (s := 5) (fun _ => rfl) hk hj]; exact hv)
    rwa [Nat.zero_add] at this
  exact ⟨hh 0 (by omega) _ rfl, hh 1 (by omega) _ rfl, hh 2 (by omega) _ rfl, hh 3 (by omega) _ rfl, hh 4 (by omega) _ rfl⟩
theorem MrC.drewN {w : World} {g k : Nat} {e : EMultiRule} (h : MrC w g k e) (n : Nat) : MrC (w.drewN n) g k e := ⟨h.c0, h.c1, h.c2, h.c3, h.c4⟩

set_option maxRecDepth 100000 in
set_option maxHeartbeats 1000000 in
theorem l06Before_is (g1 k1 g2 k2 : Nat) (e1 e2 : EMultiRule) (es : List EMultiRule) (v : Bool) (hv : mrBefore e1.d e2.d = v) (w : World) (hc1 : MrC w g1 k1 e1) (hc2 : MrC w g2 k2 e2) (hr : RcsMultiRule w es) (m1 : e1 ∈ es) (m2 : e2 ∈ es) (hl1 : e1.d.f1.length ≤ 1048576) (hl2 : e2.d.f1.length ≤ 1048576) :
    Calls Tryd.prog 48 #[.pointer (some ⟨g1, k1, none⟩), .pointer (some ⟨g2, k2, none⟩)] w fun e w' => e = .returned (.bool v) ∧ ∃ q, w' = w.drewN q := by
  obtain ⟨⟨ga, hua, hsa⟩, -⟩ := hr.at m1
  obtain ⟨⟨gb, hub, hsb⟩, -⟩ := hr.at m2
  obtain ⟨p0, p1, -, -, -⟩ := hc1
  obtain ⟨q0, q1, -, -, -⟩ := hc2
  rw [hua] at p1
  rw [hub] at q1
  obtain ⟨la, hla⟩ : ∃ la, e1.d.f1.length = la := ⟨_, rfl⟩
  obtain ⟨lb, hlb⟩ : ∃ lb, e2.d.f1.length = lb := ⟨_, rfl⟩
  rw [hla] at p1 hl1; rw [hlb] at q1 hl2
  have HLA := Lib.hid hla; have HLB := Lib.hid hlb
  have HV := Lib.hid hv
  clear hv hla hlb hua hub hr m1 m2
  obtain ⟨x, hx⟩ : ∃ x, e1.d.f0 = x := ⟨_, rfl⟩
  obtain ⟨y, hy⟩ : ∃ y, e2.d.f0 = y := ⟨_, rfl⟩
  rw [hx] at p0; rw [hy] at q0
  have HX := Lib.hid hx; have HY := Lib.hid hy
  clear hx hy
  by_cases h : x < y
  · have HF : Hid (v = true) := by unfold Hid; rw [← HV.out]; unfold mrBefore; rw [HX.out, HY.out, decide_eq_true h]; rfl
    have hd : decide (x < y) = true := decide_eq_true h
    clear h
    go_enter Tryd.func48, Tryd.ntmps48
    go_wp2_with fail
    go_quiet (fail)
    go_wp2_with fail
    go_ret
    exact ⟨ret_bool HF.out.symm, _, rfl⟩
  by_cases h2 : x = y
  rotate_left
  · have HF : Hid (v = false) := by unfold Hid; rw [← HV.out]; unfold mrBefore; rw [HX.out, HY.out, decide_eq_false h, decide_eq_false h2]; rfl
    have hd : decide (x < y) = false := decide_eq_false h
    have hd2 : (x == y) = false := by simpa using h2
    clear h h2
    go_enter Tryd.func48, Tryd.ntmps48
    go_wp2_with fail
    go_quiet (fail)
    go_wp2_with fail
    go_ret
    exact ⟨ret_bool HF.out.symm, _, rfl⟩
  · subst h2
    obtain ⟨z, hz⟩ : ∃ z, cmpI e1.d.f1 e2.d.f1 = z := ⟨_, rfl⟩
    have HF : Hid (v = decide (z < 0)) := by unfold Hid; rw [← HV.out]; unfold mrBefore; rw [HX.out, HY.out, decide_eq_false h, decide_eq_true rfl, hz]; rfl
    have hd : decide (x < x) = false := decide_eq_false h
    have hd2 : (x == x) = true := by simp
    have HZ := Lib.hid hz
    clear h hz
    go_enter Tryd.func48, Tryd.ntmps48
    go_wp2_with fail
    go_quiet ((go_at_call 80; exact quiet_q (l01Compare_is ga 0 la la gb 0 lb lb e1.d.f1 e2.d.f1 z HZ.out _ (hsa.drewN _) (hsb.drewN _) HLA.out HLB.out hl1 hl2)))
    go_wp2_with fail
    go_ret
    exact ⟨ret_bool HF.out.symm, _, rfl⟩
end Go.Proofs.YtgcedfpjgdeakaaDoor

/- Valid machines and configurations with several tapes, by the reference: l06Is, l06Good. -/
namespace Go.Proofs.YtgcedfpjgdeakaaDoor
open Go.RowKit
set_option linter.all false

/-- A machine in memory. -/
structure McF (w : World) (gm gr : Nat) (t s q : Int) (n c : Nat) (es : List EMultiRule) : Prop where
  m : w.heap[gm]? = some (.cells #[.int .i64 t, .int .i64 s, .int .i64 q, .slice (some ⟨gr, 0, none⟩) n c] 39 (0, 0))
  rs : Sl w gr 0 (rows EMultiRule.vs es)
  rc : RcsMultiRule w es
theorem McF.below {w w' : World} {gm gr : Nat} {t s q : Int} {n c : Nat} {es : List EMultiRule} (h : McF w gm gr t s q n c es) (hb : Below w.heap.size w w') : McF w' gm gr t s q n c es := ⟨(hb.block _ (heap_lt h.m)).trans h.m, h.rs.below' hb, h.rc.below hb⟩
theorem McF.cells {w : World} {gm gr : Nat} {t s q : Int} {n c : Nat} {es : List EMultiRule} (h : McF w gm gr t s q n c es) : w.cell? ⟨gm, 0, none⟩ = some (.int .i64 t) ∧ w.cell? ⟨gm, 1, none⟩ = some (.int .i64 s) ∧ w.cell? ⟨gm, 2, none⟩ = some (.int .i64 q) ∧ w.cell? ⟨gm, 3, none⟩ = some (.slice (some ⟨gr, 0, none⟩) n c) :=
  ⟨by rw [cell_of_heap h.m]; rfl, by rw [cell_of_heap h.m]; rfl, by rw [cell_of_heap h.m]; rfl, by rw [cell_of_heap h.m]; rfl⟩
theorem mrAt_bad {t s q : Int} {rs : List DMultiRule} {r : DMultiRule} {i : Nat} (h : rs[i]? = some r) (hm : mrOk t s q r = false) : mrAt t s q rs i = false := by unfold mrAt; rw [h]; simp [hm]
/-- All rules are short. -/
def lensOk (es : List EMultiRule) : Prop := ∀ e ∈ es, e.d.f1.length ≤ 1048576 ∧ e.d.f2.length ≤ 1048576 ∧ e.d.f3.length ≤ 1048576

set_option maxRecDepth 100000 in
set_option maxHeartbeats 8000000 in
theorem l06Is_is (gm gr n c : Nat) (t s q : Int) (es : List EMultiRule) (ds : List DMultiRule) (v : Bool) (hv : multiOk t s q ds = v) (w : World) (hM : McF w gm gr t s q n c es) (hd : es.map (·.d) = ds) (hl : ds.length = n) (hn : n ≤ 1048576) (hlens : lensOk es) :
    Calls Tryd.prog 25 #[.pointer (some ⟨gm, 0, none⟩)] w fun e w' => e = .returned (.bool v) ∧ ∃ q, w' = w.drewN q := by
  have M0 := Lib.hid hM
  have HD := Lib.hid hd
  have HLD := Lib.hid hl
  have HLE : Hid (es.length = n) := by unfold Hid; rw [← hl, ← hd, List.length_map]
  have HLENS := Lib.hid hlens
  obtain ⟨m0, m1, m2, m3⟩ := hM.cells
  clear hM hd hl hlens
  cases h0 : inB t 2 3 with
  | false =>
    have HF : Hid (v = false) := by unfold Hid; rw [← hv]; unfold multiOk; rw [h0]; simp
    have H0 := Lib.hid h0
    clear hv h0
    go_enter Tryd.func25, Tryd.ntmps25
    go_wp2_with fail
    refine (l00In_is t 2 3 false H0.out _).mono ?_
    rintro e w' ⟨rfl, rfl⟩
    go_wp2_with fail
    go_ret
    exact ⟨ret_bool HF.out.symm, 0, rfl⟩
  | true =>
  have H0 := Lib.hid h0
  cases h1 : inB s 2 3 with
  | false =>
    have HF : Hid (v = false) := by unfold Hid; rw [← hv]; unfold multiOk; rw [h0, h1]; simp
    have H1 := Lib.hid h1
    clear hv h1
    go_enter Tryd.func25, Tryd.ntmps25
    go_wp2_with fail
    refine (l00In_is t 2 3 true H0.out _).mono ?_
    rintro e w' ⟨rfl, rfl⟩
    go_wp2_with fail
    refine (l00In_is s 2 3 false H1.out _).mono ?_
    rintro e w' ⟨rfl, rfl⟩
    go_wp2_with fail
    go_ret
    exact ⟨ret_bool HF.out.symm, 0, rfl⟩
  | true =>
  have H1 := Lib.hid h1
  cases h2 : inB q 1 16 with
  | false =>
    have HF : Hid (v = false) := by unfold Hid; rw [← hv]; unfold multiOk; rw [h0, h1, h2]; simp
    have H2 := Lib.hid h2
    clear hv h2
    go_enter Tryd.func25, Tryd.ntmps25
    go_wp2_with fail
    refine (l00In_is t 2 3 true H0.out _).mono ?_
    rintro e w' ⟨rfl, rfl⟩
    go_wp2_with fail
    refine (l00In_is s 2 3 true H1.out _).mono ?_
    rintro e w' ⟨rfl, rfl⟩
    go_wp2_with fail
    refine (l00In_is q 1 16 false H2.out _).mono ?_
    rintro e w' ⟨rfl, rfl⟩
    go_wp2_with fail
    go_ret
    exact ⟨ret_bool HF.out.symm, 0, rfl⟩
  | true =>
  have H2 := Lib.hid h2

  by_cases h60 : n ≤ 60
  rotate_left
  · have HF : Hid (v = false) := by unfold Hid; rw [← hv]; unfold multiOk; rw [h0, h1, h2, HLD.out, decide_eq_false h60]; rfl
    have hI : (60 : Int) < (n : Int) := by omega
    clear hv h0 h1 h2
    go_enter Tryd.func25, Tryd.ntmps25
    go_wp2_with fail
    refine (l00In_is t 2 3 true H0.out _).mono ?_
    rintro e w' ⟨rfl, rfl⟩
    go_wp2_with fail
    refine (l00In_is s 2 3 true H1.out _).mono ?_
    rintro e w' ⟨rfl, rfl⟩
    go_wp2_with fail
    refine (l00In_is q 1 16 true H2.out _).mono ?_
    rintro e w' ⟨rfl, rfl⟩
    go_wp2_with fail
    go_ret
    exact ⟨ret_bool HF.out.symm, 0, rfl⟩
  have HALL : Hid (v = (List.range n).all (mrAt t s q ds)) := by unfold Hid; rw [← hv]; unfold multiOk; rw [h0, h1, h2, HLD.out, decide_eq_true h60]; rfl
  have hI : ¬ (60 : Int) < (n : Int) := by omega
  have hqb : 1 ≤ q ∧ q ≤ 16 := (inB_iff _ _ _).1 h2
  have hsb : 2 ≤ s ∧ s ≤ 3 := (inB_iff _ _ _).1 h1
  have hwq : IntKind.i64.wrap (q - 1) = q - 1 := IntWalk.i64_in _ (by omega)
  have hws : IntKind.i64.wrap (s - 1) = s - 1 := IntWalk.i64_in _ (by omega)
  clear hv h0 h1 h2 hqb hsb
  go_enter Tryd.func25, Tryd.ntmps25
  go_wp2_with fail
  refine (l00In_is t 2 3 true H0.out _).mono ?_
  rintro e w' ⟨rfl, rfl⟩
  go_wp2_with fail
  refine (l00In_is s 2 3 true H1.out _).mono ?_
  rintro e w' ⟨rfl, rfl⟩
  go_wp2_with fail
  refine (l00In_is q 1 16 true H2.out _).mono ?_
  rintro e w' ⟨rfl, rfl⟩
  go_wp2_with fail
  go_loopw [3] (fun i wr => ∃ k : Nat, k ≤ n ∧ i = .int .i64 k ∧ Hid (QD w wr) ∧ Hid (∀ j, j < k → mrAt t s q ds j = true)) (fun i _ => n - (intOf i).toNat)
  case atStart => exact ⟨0, Nat.zero_le _, rfl, QD.refl _, by intro j hj; omega⟩
  case round =>
    clear m0 m1 m2 m3
    obtain ⟨k, hk, rfl, HQ, HRR⟩ := hrel
    have M : Hid (McF wr gm gr t s q n c es) := M0.out.below HQ.out.below
    by_cases hlt : k < n
    rotate_left
    · have HF : Hid (v = true) := by
        unfold Hid
        rw [HALL.out, ← HLD.out]
        refine multi_all fun j hj => HRR.out j (by have := HLD.out; omega)
      obtain rfl : k = n := by omega
      obtain ⟨m0, m1, m2, m3⟩ := M.out.cells
      go_wp2_with fail
      go_ret
      exact ⟨ret_bool HF.out.symm, HQ.out⟩
    obtain ⟨e, he⟩ : ∃ e, es[k]? = some e := ⟨_, List.getElem?_eq_getElem (by have := HLE.out; omega)⟩
    have HEE := Lib.hid he
    have HE : Hid (ds[k]? = some e.d) := by unfold Hid; rw [← HD.out, List.getElem?_map, he]; rfl
    have hem := List.mem_of_getElem? he
    obtain ⟨hb1, hb2, hb3⟩ := HLENS.out e hem
    obtain ⟨⟨g1, hu1, hs1⟩, ⟨g2, hu2, hs2⟩, ⟨g3, hu3, hs3⟩, -⟩ := M.out.rc.at hem
    obtain ⟨l1, hl1⟩ : ∃ l, e.d.f1.length = l := ⟨_, rfl⟩
    obtain ⟨l2, hl2⟩ : ∃ l, e.d.f2.length = l := ⟨_, rfl⟩
    obtain ⟨l3, hl3⟩ : ∃ l, e.d.f3.length = l := ⟨_, rfl⟩
    rw [hl1] at hu1 hb1; rw [hl2] at hu2 hb2; rw [hl3] at hu3 hb3
    have HL1 := Lib.hid hl1; have HL2 := Lib.hid hl2; have HL3 := Lib.hid hl3
    have HU1 := Lib.hid hu1; have HU2 := Lib.hid hu2; have HU3 := Lib.hid hu3
    have HS1 := Lib.hid hs1; have HS2 := Lib.hid hs2; have HS3 := Lib.hid hs3
    have HEM := Lib.hid hem
    clear he hem hl1 hl2 hl3 hu1 hu2 hu3 hs1 hs2 hs3
    have hkI : (k : Int) < (n : Int) := by omega
    obtain ⟨m0, m1, m2, m3⟩ := M.out.cells
    obtain ⟨c0, c1, c2, c3, c4⟩ := mrC_of M.out.rs HEE.out
    rw [HU1.out] at c1; rw [HU2.out] at c2; rw [HU3.out] at c3
    cases b0 : inB e.d.f0 0 (q - 1) with
    | false =>
      have B0 := Lib.hid b0
      have HF : Hid (v = false) := by
        unfold Hid
        rw [HALL.out, ← HLD.out]
        exact multi_no (by have := HLD.out; omega) (mrAt_bad HE.out (by unfold mrOk; rw [b0]; simp))
      have HI0 : Hid (∀ W : World, Calls Tryd.prog 46 #[.int .i64 e.d.f0, .int .i64 0, .int .i64 (q - 1)] W fun z w' => z = .returned (.bool false) ∧ W = w') := fun W => l00In_is _ _ _ false B0.out W
      clear b0
      go_wp2_with fail
      go_quiet ((go_at_call 46; with_reducible exact quiet_eq (HI0.out _)))
      go_wp2_with fail
      go_ret
      exact ⟨ret_bool HF.out.symm, HQ.out.step _⟩
    | true =>
    have B0 := Lib.hid b0
    cases b4 : inB e.d.f4 0 (q - 1) with
    | false =>
      have B4 := Lib.hid b4
      have HF : Hid (v = false) := by
        unfold Hid
        rw [HALL.out, ← HLD.out]
        exact multi_no (by have := HLD.out; omega) (mrAt_bad HE.out (by unfold mrOk; rw [b0, b4]; simp))
      have HI0 : Hid (∀ W : World, Calls Tryd.prog 46 #[.int .i64 e.d.f0, .int .i64 0, .int .i64 (q - 1)] W fun z w' => z = .returned (.bool true) ∧ W = w') := fun W => l00In_is _ _ _ true B0.out W
      have HI4 : Hid (∀ W : World, Calls Tryd.prog 46 #[.int .i64 e.d.f4, .int .i64 0, .int .i64 (q - 1)] W fun z w' => z = .returned (.bool false) ∧ W = w') := fun W => l00In_is _ _ _ false B4.out W
      clear b0 b4
      go_wp2_with fail
      go_quiet ((go_at_call 46; first | with_reducible exact quiet_eq (HI0.out _) | with_reducible exact quiet_eq (HI4.out _)))
      go_wp2_with fail
      go_ret
      exact ⟨ret_bool HF.out.symm, HQ.out.step _⟩
    | true =>
    have B4 := Lib.hid b4
    cases b5 : rowOk t 0 (s - 1) e.d.f1 with
    | false =>
      have B5 := Lib.hid b5
      have HF : Hid (v = false) := by
        unfold Hid
        rw [HALL.out, ← HLD.out]
        exact multi_no (by have := HLD.out; omega) (mrAt_bad HE.out (by unfold mrOk; rw [b0, b4, b5]; simp))
      have HR1 : Hid (∀ W : World, Sl W g1 0 (e.d.f1.map (.int .i64)) → Calls Tryd.prog 47 #[.slice (some ⟨g1, 0, none⟩) l1 l1, .int .i64 t, .int .i64 0, .int .i64 (s - 1)] W fun z w' => z = .returned (.bool false) ∧ W = w') := fun W h => l06Row_is g1 0 l1 l1 e.d.f1 t 0 (s - 1) false B5.out W h HL1.out (by omega)
      clear b5
      have HI0 : Hid (∀ W : World, Calls Tryd.prog 46 #[.int .i64 e.d.f0, .int .i64 0, .int .i64 (q - 1)] W fun z w' => z = .returned (.bool true) ∧ W = w') := fun W => l00In_is _ _ _ true B0.out W
      have HI4 : Hid (∀ W : World, Calls Tryd.prog 46 #[.int .i64 e.d.f4, .int .i64 0, .int .i64 (q - 1)] W fun z w' => z = .returned (.bool true) ∧ W = w') := fun W => l00In_is _ _ _ true B4.out W
      clear b0 b4
      go_wp2_with fail
      go_quiet ((go_at_call 46; first | with_reducible exact quiet_eq (HI0.out _) | with_reducible exact quiet_eq (HI4.out _)))
      clear m0 m1 m2 m3 c0 c1 c2 c3 c4
      obtain ⟨wx1, hwx1⟩ : ∃ wx, wr.drewN nq = wx := ⟨_, rfl⟩
      have M1 : Hid (McF wx1 gm gr t s q n c es) := hwx1 ▸ M.out.below (below_drewN (Below.refl _ _) nq)
      have Q1 : Hid (QD w wx1) := hwx1 ▸ HQ.out.step nq
      rw [hwx1]
      have hb1x : Below wr.heap.size wr wx1 := hwx1 ▸ below_drewN (Below.refl _ _) nq
      have SL1 : Hid (Sl wx1 g1 0 (e.d.f1.map (.int .i64))) := HS1.out.below' hb1x
      have SL2 : Hid (Sl wx1 g2 0 (e.d.f2.map (.int .i64))) := HS2.out.below' hb1x
      have SL3 : Hid (Sl wx1 g3 0 (e.d.f3.map (.int .i64))) := HS3.out.below' hb1x
      obtain ⟨m0, m1, m2, m3⟩ := M1.out.cells
      obtain ⟨c0, c1, c2, c3, c4⟩ := mrC_of M1.out.rs HEE.out
      rw [HU1.out] at c1; rw [HU2.out] at c2; rw [HU3.out] at c3
      clear hwx1 hb1x
      go_wp2_with fail
      go_quiet ((go_at_call 47; first | with_reducible exact quiet_eq (HR1.out _ (SL1.out.drewN _))))
      go_wp2_with fail
      go_ret
      exact ⟨ret_bool HF.out.symm, Q1.out.step _⟩
    | true =>
    have B5 := Lib.hid b5
    cases b6 : rowOk t 0 (s - 1) e.d.f2 with
    | false =>
      have B6 := Lib.hid b6
      have HF : Hid (v = false) := by
        unfold Hid
        rw [HALL.out, ← HLD.out]
        exact multi_no (by have := HLD.out; omega) (mrAt_bad HE.out (by unfold mrOk; rw [b0, b4, b5, b6]; simp))
      have HR1 : Hid (∀ W : World, Sl W g1 0 (e.d.f1.map (.int .i64)) → Calls Tryd.prog 47 #[.slice (some ⟨g1, 0, none⟩) l1 l1, .int .i64 t, .int .i64 0, .int .i64 (s - 1)] W fun z w' => z = .returned (.bool true) ∧ W = w') := fun W h => l06Row_is g1 0 l1 l1 e.d.f1 t 0 (s - 1) true B5.out W h HL1.out (by omega)
      have HR2 : Hid (∀ W : World, Sl W g2 0 (e.d.f2.map (.int .i64)) → Calls Tryd.prog 47 #[.slice (some ⟨g2, 0, none⟩) l2 l2, .int .i64 t, .int .i64 0, .int .i64 (s - 1)] W fun z w' => z = .returned (.bool false) ∧ W = w') := fun W h => l06Row_is g2 0 l2 l2 e.d.f2 t 0 (s - 1) false B6.out W h HL2.out (by omega)
      clear b5 b6
      have HI0 : Hid (∀ W : World, Calls Tryd.prog 46 #[.int .i64 e.d.f0, .int .i64 0, .int .i64 (q - 1)] W fun z w' => z = .returned (.bool true) ∧ W = w') := fun W => l00In_is _ _ _ true B0.out W
      have HI4 : Hid (∀ W : World, Calls Tryd.prog 46 #[.int .i64 e.d.f4, .int .i64 0, .int .i64 (q - 1)] W fun z w' => z = .returned (.bool true) ∧ W = w') := fun W => l00In_is _ _ _ true B4.out W
      clear b0 b4
      go_wp2_with fail
      go_quiet ((go_at_call 46; first | with_reducible exact quiet_eq (HI0.out _) | with_reducible exact quiet_eq (HI4.out _)))
      clear m0 m1 m2 m3 c0 c1 c2 c3 c4
      obtain ⟨wx1, hwx1⟩ : ∃ wx, wr.drewN nq = wx := ⟨_, rfl⟩
      have M1 : Hid (McF wx1 gm gr t s q n c es) := hwx1 ▸ M.out.below (below_drewN (Below.refl _ _) nq)
      have Q1 : Hid (QD w wx1) := hwx1 ▸ HQ.out.step nq
      rw [hwx1]
      have hb1x : Below wr.heap.size wr wx1 := hwx1 ▸ below_drewN (Below.refl _ _) nq
      have SL1 : Hid (Sl wx1 g1 0 (e.d.f1.map (.int .i64))) := HS1.out.below' hb1x
      have SL2 : Hid (Sl wx1 g2 0 (e.d.f2.map (.int .i64))) := HS2.out.below' hb1x
      have SL3 : Hid (Sl wx1 g3 0 (e.d.f3.map (.int .i64))) := HS3.out.below' hb1x
      obtain ⟨m0, m1, m2, m3⟩ := M1.out.cells
      obtain ⟨c0, c1, c2, c3, c4⟩ := mrC_of M1.out.rs HEE.out
      rw [HU1.out] at c1; rw [HU2.out] at c2; rw [HU3.out] at c3
      clear hwx1 hb1x
      go_wp2_with fail
      go_quiet ((go_at_call 47; first | with_reducible exact quiet_eq (HR1.out _ (SL1.out.drewN _)) | with_reducible exact quiet_eq (HR2.out _ (SL2.out.drewN _))))
      go_wp2_with fail
      go_ret
      exact ⟨ret_bool HF.out.symm, Q1.out.step _⟩
    | true =>
    have B6 := Lib.hid b6
    cases b7 : rowOk t (-1) 1 e.d.f3 with
    | false =>
      have B7 := Lib.hid b7
      have HF : Hid (v = false) := by
        unfold Hid
        rw [HALL.out, ← HLD.out]
        exact multi_no (by have := HLD.out; omega) (mrAt_bad HE.out (by unfold mrOk; rw [b0, b4, b5, b6, b7]; simp))
      have HR1 : Hid (∀ W : World, Sl W g1 0 (e.d.f1.map (.int .i64)) → Calls Tryd.prog 47 #[.slice (some ⟨g1, 0, none⟩) l1 l1, .int .i64 t, .int .i64 0, .int .i64 (s - 1)] W fun z w' => z = .returned (.bool true) ∧ W = w') := fun W h => l06Row_is g1 0 l1 l1 e.d.f1 t 0 (s - 1) true B5.out W h HL1.out (by omega)
      have HR2 : Hid (∀ W : World, Sl W g2 0 (e.d.f2.map (.int .i64)) → Calls Tryd.prog 47 #[.slice (some ⟨g2, 0, none⟩) l2 l2, .int .i64 t, .int .i64 0, .int .i64 (s - 1)] W fun z w' => z = .returned (.bool true) ∧ W = w') := fun W h => l06Row_is g2 0 l2 l2 e.d.f2 t 0 (s - 1) true B6.out W h HL2.out (by omega)
      have HR3 : Hid (∀ W : World, Sl W g3 0 (e.d.f3.map (.int .i64)) → Calls Tryd.prog 47 #[.slice (some ⟨g3, 0, none⟩) l3 l3, .int .i64 t, .int .i64 (-1), .int .i64 1] W fun z w' => z = .returned (.bool false) ∧ W = w') := fun W h => l06Row_is g3 0 l3 l3 e.d.f3 t (-1) 1 false B7.out W h HL3.out (by omega)
      clear b5 b6 b7
      have HI0 : Hid (∀ W : World, Calls Tryd.prog 46 #[.int .i64 e.d.f0, .int .i64 0, .int .i64 (q - 1)] W fun z w' => z = .returned (.bool true) ∧ W = w') := fun W => l00In_is _ _ _ true B0.out W
      have HI4 : Hid (∀ W : World, Calls Tryd.prog 46 #[.int .i64 e.d.f4, .int .i64 0, .int .i64 (q - 1)] W fun z w' => z = .returned (.bool true) ∧ W = w') := fun W => l00In_is _ _ _ true B4.out W
      clear b0 b4
      go_wp2_with fail
      go_quiet ((go_at_call 46; first | with_reducible exact quiet_eq (HI0.out _) | with_reducible exact quiet_eq (HI4.out _)))
      clear m0 m1 m2 m3 c0 c1 c2 c3 c4
      obtain ⟨wx1, hwx1⟩ : ∃ wx, wr.drewN nq = wx := ⟨_, rfl⟩
      have M1 : Hid (McF wx1 gm gr t s q n c es) := hwx1 ▸ M.out.below (below_drewN (Below.refl _ _) nq)
      have Q1 : Hid (QD w wx1) := hwx1 ▸ HQ.out.step nq
      rw [hwx1]
      have hb1x : Below wr.heap.size wr wx1 := hwx1 ▸ below_drewN (Below.refl _ _) nq
      have SL1 : Hid (Sl wx1 g1 0 (e.d.f1.map (.int .i64))) := HS1.out.below' hb1x
      have SL2 : Hid (Sl wx1 g2 0 (e.d.f2.map (.int .i64))) := HS2.out.below' hb1x
      have SL3 : Hid (Sl wx1 g3 0 (e.d.f3.map (.int .i64))) := HS3.out.below' hb1x
      obtain ⟨m0, m1, m2, m3⟩ := M1.out.cells
      obtain ⟨c0, c1, c2, c3, c4⟩ := mrC_of M1.out.rs HEE.out
      rw [HU1.out] at c1; rw [HU2.out] at c2; rw [HU3.out] at c3
      clear hwx1 hb1x
      go_wp2_with fail
      go_quiet ((go_at_call 47; first | with_reducible exact quiet_eq (HR1.out _ (SL1.out.drewN _)) | with_reducible exact quiet_eq (HR2.out _ (SL2.out.drewN _)) | with_reducible exact quiet_eq (HR3.out _ (SL3.out.drewN _))))
      go_wp2_with fail
      go_ret
      exact ⟨ret_bool HF.out.symm, Q1.out.step _⟩
    | true =>
    have B7 := Lib.hid b7
    have HOK : Hid (mrOk t s q e.d = true) := by unfold Hid mrOk; rw [b0, b4, b5, b6, b7]; rfl
    have HR1 : Hid (∀ W : World, Sl W g1 0 (e.d.f1.map (.int .i64)) → Calls Tryd.prog 47 #[.slice (some ⟨g1, 0, none⟩) l1 l1, .int .i64 t, .int .i64 0, .int .i64 (s - 1)] W fun z w' => z = .returned (.bool true) ∧ W = w') := fun W h => l06Row_is g1 0 l1 l1 e.d.f1 t 0 (s - 1) true B5.out W h HL1.out (by omega)
    have HR2 : Hid (∀ W : World, Sl W g2 0 (e.d.f2.map (.int .i64)) → Calls Tryd.prog 47 #[.slice (some ⟨g2, 0, none⟩) l2 l2, .int .i64 t, .int .i64 0, .int .i64 (s - 1)] W fun z w' => z = .returned (.bool true) ∧ W = w') := fun W h => l06Row_is g2 0 l2 l2 e.d.f2 t 0 (s - 1) true B6.out W h HL2.out (by omega)
    have HR3 : Hid (∀ W : World, Sl W g3 0 (e.d.f3.map (.int .i64)) → Calls Tryd.prog 47 #[.slice (some ⟨g3, 0, none⟩) l3 l3, .int .i64 t, .int .i64 (-1), .int .i64 1] W fun z w' => z = .returned (.bool true) ∧ W = w') := fun W h => l06Row_is g3 0 l3 l3 e.d.f3 t (-1) 1 true B7.out W h HL3.out (by omega)
    clear b5 b6 b7
    have HI0 : Hid (∀ W : World, Calls Tryd.prog 46 #[.int .i64 e.d.f0, .int .i64 0, .int .i64 (q - 1)] W fun z w' => z = .returned (.bool true) ∧ W = w') := fun W => l00In_is _ _ _ true B0.out W
    have HI4 : Hid (∀ W : World, Calls Tryd.prog 46 #[.int .i64 e.d.f4, .int .i64 0, .int .i64 (q - 1)] W fun z w' => z = .returned (.bool true) ∧ W = w') := fun W => l00In_is _ _ _ true B4.out W
    clear b0 b4
    go_wp2_with fail
    go_quiet ((go_at_call 46; first | with_reducible exact quiet_eq (HI0.out _) | with_reducible exact quiet_eq (HI4.out _)))
    clear m0 m1 m2 m3 c0 c1 c2 c3 c4
    obtain ⟨wx1, hwx1⟩ : ∃ wx, wr.drewN nq = wx := ⟨_, rfl⟩
    have M1 : Hid (McF wx1 gm gr t s q n c es) := hwx1 ▸ M.out.below (below_drewN (Below.refl _ _) nq)
    have Q1 : Hid (QD w wx1) := hwx1 ▸ HQ.out.step nq
    rw [hwx1]
    have hb1x : Below wr.heap.size wr wx1 := hwx1 ▸ below_drewN (Below.refl _ _) nq
    have SL1 : Hid (Sl wx1 g1 0 (e.d.f1.map (.int .i64))) := HS1.out.below' hb1x
    have SL2 : Hid (Sl wx1 g2 0 (e.d.f2.map (.int .i64))) := HS2.out.below' hb1x
    have SL3 : Hid (Sl wx1 g3 0 (e.d.f3.map (.int .i64))) := HS3.out.below' hb1x
    obtain ⟨m0, m1, m2, m3⟩ := M1.out.cells
    obtain ⟨c0, c1, c2, c3, c4⟩ := mrC_of M1.out.rs HEE.out
    rw [HU1.out] at c1; rw [HU2.out] at c2; rw [HU3.out] at c3
    clear hwx1 hb1x
    go_wp2_with fail
    go_quiet ((go_at_call 47; first | with_reducible exact quiet_eq (HR1.out _ (SL1.out.drewN _)) | with_reducible exact quiet_eq (HR2.out _ (SL2.out.drewN _)) | with_reducible exact quiet_eq (HR3.out _ (SL3.out.drewN _))))
    clear m0 m1 m2 m3 c0 c1 c2 c3 c4
    obtain ⟨wx2, hwx2⟩ : ∃ wx, wx1.drewN nq = wx := ⟨_, rfl⟩
    have M2 : Hid (McF wx2 gm gr t s q n c es) := hwx2 ▸ M1.out.below (below_drewN (Below.refl _ _) nq)
    have Q2 : Hid (QD w wx2) := hwx2 ▸ Q1.out.step nq
    rw [hwx2]
    clear hwx2
    obtain ⟨m0, m1, m2, m3⟩ := M2.out.cells
    obtain ⟨c0, c1, c2, c3, c4⟩ := mrC_of M2.out.rs HEE.out
    rw [HU1.out] at c1; rw [HU2.out] at c2; rw [HU3.out] at c3
    rcases Nat.eq_zero_or_pos k with h0 | h0
    · subst h0
      have HAT : Hid (mrAt t s q ds 0 = true) := by unfold Hid; rw [mrAt_zero HE.out]; exact HOK.out
      go_wp2_with fail
      go_roundw
      case rel => exact ⟨1, by omega, rfl, Q2, by
        intro j hj
        obtain rfl : j = 0 := by omega
        exact HAT.out⟩
      case measure => simp [intOf]; omega
    · obtain ⟨p, rfl⟩ : ∃ p, k = p + 1 := ⟨k - 1, by omega⟩
      obtain ⟨e', he'⟩ : ∃ e, es[p]? = some e := ⟨_, List.getElem?_eq_getElem (by have := HLE.out; omega)⟩
      have HE' : Hid (ds[p]? = some e'.d) := by unfold Hid; rw [← HD.out, List.getElem?_map, he']; rfl
      have hem' := List.mem_of_getElem? he'
      have HCP := Lib.hid (mrC_of M2.out.rs he')
      have HCC := Lib.hid (mrC_of M2.out.rs HEE.out)
      have hlp := (HLENS.out e' hem').1
      have hpI : (p : Int) + 1 - 1 = (p : Int) := by omega
      have hwp : IntKind.i64.wrap (p : Int) = (p : Int) := IntWalk.i64_in _ (by omega)
      have hpos : (0 : Int) < (p : Int) + 1 := by omega
      have hpn : (p : Int) < (n : Int) := by omega
      cases bb : mrBefore e'.d e.d with
      | false =>
        have HF : Hid (v = false) := by
          unfold Hid
          rw [HALL.out, ← HLD.out]
          exact multi_no (j := p + 1) (by have := HLD.out; omega) (by rw [mrAt_succ HE.out HE'.out, HOK.out, bb]; rfl)
        have HBF := Lib.hid (l06Before_is gr (p * 5) gr ((p + 1) * 5) e' e es false bb wx2 HCP.out HCC.out M2.out.rc hem' HEM.out hlp (by rw [HL1.out]; exact hb1))
        clear bb he' hem' hlp
        go_wp2_with fail
        refine HBF.out.mono ?_
        rintro z w3 ⟨rfl, nq3, rfl⟩
        go_wp2_with fail
        go_ret
        exact ⟨ret_bool HF.out.symm, Q2.out.step _⟩
      | true =>
        have HAT : Hid (mrAt t s q ds (p + 1) = true) := by unfold Hid; rw [mrAt_succ HE.out HE'.out, HOK.out, bb]; rfl
        have HBF := Lib.hid (l06Before_is gr (p * 5) gr ((p + 1) * 5) e' e es true bb wx2 HCP.out HCC.out M2.out.rc hem' HEM.out hlp (by rw [HL1.out]; exact hb1))
        clear bb he' hem' hlp
        go_wp2_with fail
        refine HBF.out.mono ?_
        rintro z w3 ⟨rfl, nq3, rfl⟩
        go_wp2_with fail
        go_roundw
        case rel => exact ⟨p + 1 + 1, by omega, by go_num, Q2.out.step _, by
          intro j hj
          by_cases ej : j = p + 1
          · rw [ej]; exact HAT.out
          · exact HRR.out j (by omega)⟩
        case measure => simp [intOf]; omega

end Go.Proofs.YtgcedfpjgdeakaaDoor

/- Valid configurations of machines with several tapes, by the reference: l06Good. -/
namespace Go.Proofs.YtgcedfpjgdeakaaDoor
open Go.RowKit
set_option linter.all false

/-- A configuration in memory. -/
structure CfF (w : World) (gc gt : Nat) (st : Int) (n c : Nat) (es : List ETape) : Prop where
  m : w.heap[gc]? = some (.cells #[.int .i64 st, .slice (some ⟨gt, 0, none⟩) n c] 43 (0, 0))
  rs : Sl w gt 0 (rows ETape.vs es)
  rc : RcsTape w es
theorem CfF.below {w w' : World} {gc gt : Nat} {st : Int} {n c : Nat} {es : List ETape} (h : CfF w gc gt st n c es) (hb : Below w.heap.size w w') : CfF w' gc gt st n c es := ⟨(hb.block _ (heap_lt h.m)).trans h.m, h.rs.below' hb, h.rc.below hb⟩
theorem CfF.cells {w : World} {gc gt : Nat} {st : Int} {n c : Nat} {es : List ETape} (h : CfF w gc gt st n c es) : w.cell? ⟨gc, 0, none⟩ = some (.int .i64 st) ∧ w.cell? ⟨gc, 1, none⟩ = some (.slice (some ⟨gt, 0, none⟩) n c) :=
  ⟨by rw [cell_of_heap h.m]; rfl, by rw [cell_of_heap h.m]; rfl⟩
theorem tpC_of {w : World} {g : Nat} {es : List ETape} {k : Nat} {e : ETape} (hs : Sl w g 0 (rows ETape.vs es)) (hk : es[k]? = some e) : w.cell? ⟨g, k * 2, none⟩ = some e.u0 ∧ w.cell? ⟨g, k * 2 + 1, none⟩ = some e.u1 := by
  have hh : ∀ j, j < 2 → ∀ v, e.vs[j]? = some v → w.cell? ⟨g, k * 2 + j, none⟩ = some v := by
    intro j hj v hv
    have := hs.at (j := k * 2 + j) (u := v) (by rw [rows_at (s := 2) (fun _ => rfl) hk hj]; exact hv)
    rwa [Nat.zero_add] at this
  exact ⟨hh 0 (by omega) _ rfl, hh 1 (by omega) _ rfl⟩
def lensT (es : List ETape) : Prop := ∀ e ∈ es, e.d.f0.length ≤ 1048576 ∧ e.d.f1.length ≤ 1048576

set_option maxRecDepth 100000 in
set_option maxHeartbeats 4000000 in
theorem l06Good_is (gm gr n c : Nat) (t s q : Int) (es : List EMultiRule) (gc gt nt ct : Nat) (st : Int) (ts : List ETape) (ds : List DTape) (v : Bool) (hv : goodC t s q st ds = v) (w : World) (hM : McF w gm gr t s q n c es) (hC : CfF w gc gt st nt ct ts) (hd : ts.map (·.d) = ds) (hl : ds.length = nt) (hn : nt ≤ 1048576) (hlens : lensT ts) (hs : 2 ≤ s ∧ s ≤ 3) (hq : 1 ≤ q ∧ q ≤ 16) :
    Calls Tryd.prog 26 #[.pointer (some ⟨gm, 0, none⟩), .pointer (some ⟨gc, 0, none⟩)] w fun e w' => e = .returned (.bool v) ∧ ∃ q, w' = w.drewN q := by
  have M0 := Lib.hid hM
  have C0 := Lib.hid hC
  have HD := Lib.hid hd
  have HLD := Lib.hid hl
  have HLE : Hid (ts.length = nt) := by unfold Hid; rw [← hl, ← hd, List.length_map]
  have HLENS := Lib.hid hlens
  have HSB := Lib.hid hs
  obtain ⟨m0, m1, m2, m3⟩ := hM.cells
  obtain ⟨c0, c1⟩ := hC.cells
  have hwq : IntKind.i64.wrap (q - 1) = q - 1 := IntWalk.i64_in _ (by omega)
  clear hM hC hd hl hlens hs hq
  cases h0 : inB st 0 (q - 1) with
  | false =>
    have HF : Hid (v = false) := by unfold Hid; rw [← hv]; unfold goodC; rw [h0]; rfl
    have H0 := Lib.hid h0
    clear hv h0
    go_enter Tryd.func26, Tryd.ntmps26
    go_wp2_with fail
    go_quiet ((go_at_call 46; exact quiet_eq (l00In_is st 0 (q - 1) false H0.out _)))
    go_wp2_with fail
    go_ret
    exact ⟨ret_bool HF.out.symm, _, rfl⟩
  | true =>
  have H0 := Lib.hid h0
  by_cases hnt : (nt : Int) = t
  rotate_left
  · have HF : Hid (v = false) := by unfold Hid; rw [← hv]; unfold goodC; rw [h0, HLD.out, decide_eq_false hnt]; rfl
    have hne : ((nt : Int) != t) = true := by simpa using hnt
    clear hv h0 hnt
    go_enter Tryd.func26, Tryd.ntmps26
    go_wp2_with fail
    go_quiet ((go_at_call 46; exact quiet_eq (l00In_is st 0 (q - 1) true H0.out _)))
    go_wp2_with fail
    go_ret
    exact ⟨ret_bool HF.out.symm, _, rfl⟩
  have HALL : Hid (v = ds.all (tpOk s)) := by unfold Hid; rw [← hv]; unfold goodC; rw [h0, HLD.out, decide_eq_true hnt]; rfl
  have hne : ((nt : Int) != t) = false := by simpa using hnt
  have HNT := Lib.hid hnt
  clear hv h0 hnt
  go_enter Tryd.func26, Tryd.ntmps26
  go_wp2_with fail
  go_quiet ((go_at_call 46; exact quiet_eq (l00In_is st 0 (q - 1) true H0.out _)))
  have HQ0 : Hid (QD w (w.drewN nq)) := (QD.refl w).step nq
  generalize w.drewN nq = wz at HQ0 ⊢
  clear hne m0 m1 m2 m3 c0 c1 hwq
  obtain ⟨c0, c1⟩ := (C0.out.below HQ0.out.below).cells
  go_wp2_with fail
  go_loopw [5] (fun i wr => ∃ k : Nat, k ≤ nt ∧ i = .int .i64 k ∧ Hid (QD w wr) ∧ Hid (∀ j x, j < k → ds[j]? = some x → tpOk s x = true)) (fun i _ => nt - (intOf i).toNat)
  case atStart => exact ⟨0, Nat.zero_le _, rfl, HQ0, by intro j x hj; omega⟩
  case round =>
    clear c0 c1
    obtain ⟨k, hk, rfl, HQ, HRR⟩ := hrel
    obtain ⟨m0, m1, m2, m3⟩ := (M0.out.below HQ.out.below).cells
    have C := Lib.hid (C0.out.below HQ.out.below)
    obtain ⟨c0, c1⟩ := C.out.cells
    by_cases hlt : k < nt
    rotate_left
    · have HF : Hid (v = true) := by
        unfold Hid
        rw [HALL.out, List.all_eq_true]
        intro x hx
        obtain ⟨j, hj⟩ := List.getElem?_of_mem hx
        exact HRR.out j x (by have := HLD.out; have := (List.getElem?_eq_some_iff.1 hj).1; omega) hj
      obtain rfl : k = nt := by omega
      go_wp2_with fail
      go_ret
      exact ⟨ret_bool HF.out.symm, HQ.out⟩
    obtain ⟨e, he⟩ : ∃ e, ts[k]? = some e := ⟨_, List.getElem?_eq_getElem (by have := HLE.out; omega)⟩
    have HE : Hid (ds[k]? = some e.d) := by unfold Hid; rw [← HD.out, List.getElem?_map, he]; rfl
    have hem := List.mem_of_getElem? he
    obtain ⟨hb1, hb2⟩ := HLENS.out e hem
    obtain ⟨⟨g1, hu1, hs1⟩, ⟨g2, hu2, hs2⟩, -⟩ := C.out.rc.at hem
    obtain ⟨p0, p1⟩ := tpC_of C.out.rs he
    obtain ⟨l1, hl1⟩ : ∃ l, e.d.f0.length = l := ⟨_, rfl⟩
    obtain ⟨l2, hl2⟩ : ∃ l, e.d.f1.length = l := ⟨_, rfl⟩
    rw [hl1] at hu1 hb1; rw [hl2] at hu2 hb2
    rw [hu1] at p0; rw [hu2] at p1
    have HL1 := Lib.hid hl1; have HL2 := Lib.hid hl2
    have HS1 := Lib.hid hs1; have HS2 := Lib.hid hs2
    clear he hem hl1 hl2 hu1 hu2 hs1 hs2
    cases h1 : sideOk s e.d.f0 with
    | false =>
      have HF : Hid (v = false) := by
        unfold Hid
        rw [HALL.out, Bool.eq_false_iff]; intro hall
        have := List.all_eq_true.1 hall e.d (List.mem_of_getElem? HE.out)
        unfold tpOk at this; rw [h1] at this; cases this
      have HR1 : Hid (∀ W : World, Sl W g1 0 (e.d.f0.map (.int .i64)) → Calls Tryd.prog 49 #[.slice (some ⟨g1, 0, none⟩) l1 l1, .int .i64 s] W fun z w' => z = .returned (.bool false) ∧ W = w') := fun W h => l06Side_is g1 0 l1 l1 e.d.f0 s false h1 W h HL1.out (by omega) HSB.out
      clear h1
      go_wp2_with fail
      go_quiet ((go_at_call 49; exact quiet_eq (HR1.out _ (HS1.out.drewN _))))
      go_wp2_with fail
      go_ret
      exact ⟨ret_bool HF.out.symm, HQ.out.step _⟩
    | true =>
    have HR1 : Hid (∀ W : World, Sl W g1 0 (e.d.f0.map (.int .i64)) → Calls Tryd.prog 49 #[.slice (some ⟨g1, 0, none⟩) l1 l1, .int .i64 s] W fun z w' => z = .returned (.bool true) ∧ W = w') := fun W h => l06Side_is g1 0 l1 l1 e.d.f0 s true h1 W h HL1.out (by omega) HSB.out
    cases h2 : sideOk s e.d.f1 with
    | false =>
      have HF : Hid (v = false) := by
        unfold Hid
        rw [HALL.out, Bool.eq_false_iff]; intro hall
        have := List.all_eq_true.1 hall e.d (List.mem_of_getElem? HE.out)
        unfold tpOk at this; rw [h1, h2] at this; cases this
      have HR2 : Hid (∀ W : World, Sl W g2 0 (e.d.f1.map (.int .i64)) → Calls Tryd.prog 49 #[.slice (some ⟨g2, 0, none⟩) l2 l2, .int .i64 s] W fun z w' => z = .returned (.bool false) ∧ W = w') := fun W h => l06Side_is g2 0 l2 l2 e.d.f1 s false h2 W h HL2.out (by omega) HSB.out
      clear h1 h2
      go_wp2_with fail
      go_quiet ((go_at_call 49; first | with_reducible exact quiet_eq (HR1.out _ (HS1.out.drewN _)) | with_reducible exact quiet_eq (HR2.out _ (HS2.out.drewN _))))
      go_wp2_with fail
      go_ret
      exact ⟨ret_bool HF.out.symm, HQ.out.step _⟩
    | true =>
      have HT : Hid (tpOk s e.d = true) := by unfold Hid tpOk; rw [h1, h2]; rfl
      have HR2 : Hid (∀ W : World, Sl W g2 0 (e.d.f1.map (.int .i64)) → Calls Tryd.prog 49 #[.slice (some ⟨g2, 0, none⟩) l2 l2, .int .i64 s] W fun z w' => z = .returned (.bool true) ∧ W = w') := fun W h => l06Side_is g2 0 l2 l2 e.d.f1 s true h2 W h HL2.out (by omega) HSB.out
      clear h1 h2
      go_wp2_with fail
      go_quiet ((go_at_call 49; first | with_reducible exact quiet_eq (HR1.out _ (HS1.out.drewN _)) | with_reducible exact quiet_eq (HR2.out _ (HS2.out.drewN _))))
      go_wp2_with fail
      go_roundw
      case rel => exact ⟨k + 1, by omega, by go_num, HQ.out.step _, by
        intro j x hj hx
        by_cases ej : j = k
        · subst ej
          have h2 := HE.out
          rw [hx] at h2; injection h2 with h2; subst h2; exact HT.out
        · exact HRR.out j x (by omega) hx⟩
      case measure => simp [intOf]; omega
end Go.Proofs.YtgcedfpjgdeakaaDoor

/- Small contracts on rows of numbers: clone, l00Has, allWithin, rising. No conditions beyond the sizes. -/
namespace Go.Proofs.YtgcedfpjgdeakaaDoor
open Go.RowKit
set_option linter.all false

theorem own_cap {w : World} {base : Nat} {e : TypeId} {size n : Nat} {v : Value} {xs : List Value} (h : w.ownsRow base e size v n xs) : ∀ A c, v = .slice A n c → n ≤ c := by
  intro A c hv
  rcases h.2 with ⟨h0, h1⟩ | ⟨g, cap, cur, h0, _, _, h1, _⟩
  · omega
  · rw [h0] at hv; injection hv with _ _ h3; omega

theorem allWithin_is (b off n c : Nat) (xs : List Int) (lo hi : Int) (v : Bool) (hv : xs.all (inB · lo hi) = v) (w : World) (hs : Sl w b off (xs.map (.int .i64))) (hl : xs.length = n) (hn : n ≤ 4194304) :
    Calls Tryd.prog 104 #[.slice (some ⟨b, off, none⟩) n c, .int .i64 lo, .int .i64 hi] w fun e w' => e = .returned (.bool v) ∧ w = w' := by
  subst hv; exact allWithin_any b off n c xs lo hi w hs hl hn

set_option maxRecDepth 100000 in
theorem cloneInt64_any (v0 : Value) (n : Nat) (xs : List Int) (w : World) (hsrc : Src 1 w v0 n (xs.map (Value.int .i64))) (hn : n ≤ 1048576) :
    Calls Tryd.prog 89 #[v0] w fun e w' => ∃ v, e = .returned v ∧ w'.ownsRow w.heap.size 2 1 v n (xs.map (Value.int .i64)) ∧ Below w.heap.size w w' := by
  rcases hsrc.2 with ⟨rfl, rfl⟩ | ⟨b, off, c, rfl, hs⟩
  · have h0 : xs.map (Value.int .i64) = [] := List.eq_nil_of_length_eq_zero (by simpa using hsrc.1)
    have H0 := Lib.hid h0; clear h0
    have hnl := run_nil_none Tryd.underlying82
    go_enter Tryd.func89, Tryd.ntmps89
    go_wp2
    go_ret
    exact ⟨_, rfl, by rw [H0.out]; exact World.ownsRow_nil _ _ _ _, Below.refl _ _⟩
  · have hown0 : (w.alloc (.cells #[] 2)).ownsRow w.heap.size 2 1 (.slice (some ⟨w.heap.size, 0, none⟩) 0 0) 0 [] := own_empty w 2 1
    have hB0 := laid_below w (.cells #[] 2)
    have hsrc1 := hsrc.below hB0
    have HO := Lib.hid (one_ints .i64 xs)
    clear hsrc hs
    have hnl := run_nil_some Tryd.underlying82 ⟨b, off, none⟩ n c
    go_enter Tryd.func89, Tryd.ntmps89
    go_wp2_with (at_builtin; refine wpList_appx rfl _ _ _ rfl Tryd.underlying82 infoInt64S rfl (by omega) w.heap.size hown0 hB0.size rfl hsrc1 rfl HO.out (by unfold maxLen; omega) (by omega) ?_; intro v2 w2 hown2 hg2 hnil2; have hB2 := grown_below hB0 hown0 (Nat.le_refl _) hg2; clear hnil2 hown0 hB0 hsrc1 hg2)
    go_ret
    exact ⟨_, rfl, by simpa using hown2, hB2⟩

end Go.Proofs.YtgcedfpjgdeakaaDoor
