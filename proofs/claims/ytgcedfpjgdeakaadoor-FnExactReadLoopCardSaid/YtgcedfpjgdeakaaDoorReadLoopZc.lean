/- The law FnExactReadLoop returns true for every input, and each argument reads afterwards as before: the proof, part 3. No conditions. -/
import Derived.Test.YtgcedfpjgdeakaaDoorReadLoopZb
import Derived.Lib.ParseIntB
import Derived.Lib.Strings
import Derived.StillTailTactics
import Derived.Laws.CopyOwn
import Derived.Maps.AppendAt
import Derived.Shelf.Strings.Builder1
/- Reading the text of a loop program, as the program does it: plain functions, and that the text of a valid program gives the program. -/
namespace Go.Proofs.YtgcedfpjgdeakaaDoor
open Go.RowKit
set_option linter.all false

/-- The number that digits spell. -/
def valD (acc : Nat) (l : List UInt8) : Nat := l.foldl (fun a c => a * 10 + (c.toNat - 48)) acc
theorem digB_iff (b : UInt8) : digB b = true ↔ 48 ≤ b.toNat ∧ b.toNat ≤ 57 := by unfold digB; simp
theorem valD_nil (acc : Nat) : valD acc [] = acc := by unfold valD; rw [List.foldl_nil]
theorem valD_cons (acc : Nat) (c : UInt8) (r : List UInt8) : valD acc (c :: r) = valD (acc * 10 + (c.toNat - 48)) r := by unfold valD; rw [List.foldl_cons]
theorem pow_le9 {k : Nat} (h : k ≤ 9) : (10 : Nat) ^ k ≤ 1000000000 := Nat.le_trans (Nat.pow_le_pow_right (by omega) h) (by decide)
theorem pow_le8 {k : Nat} (h : k ≤ 8) : (10 : Nat) ^ k ≤ 100000000 := Nat.le_trans (Nat.pow_le_pow_right (by omega) h) (by decide)
theorem uintM_nil (M acc : Nat) : Lib.parseUintM M acc [] = .ok acc := rfl
theorem uintM_cons {M acc : Nat} {c : UInt8} (r : List UInt8) (h : 48 ≤ c.toNat ∧ c.toNat ≤ 57) (h1 : acc < 1844674407370955162) (h2 : acc * 10 + (c.toNat - 48) ≤ M) : Lib.parseUintM M acc (c :: r) = Lib.parseUintM M (acc * 10 + (c.toNat - 48)) r := by
  rw [Lib.parseUintM, if_pos h, if_neg (by omega), if_neg (by omega)]
theorem valD_parse (M : Nat) (hM : 1000000000 ≤ M) : ∀ (l : List UInt8) (acc k : Nat), l.all digB = true → acc < 10 ^ k → k + l.length ≤ 9 → Lib.parseUintM M acc l = .ok (valD acc l) ∧ valD acc l < 1000000000
  | [], acc, k, _, h, hk => by
    have := pow_le9 (k := k) (by simpa using hk)
    rw [uintM_nil, valD_nil]
    exact ⟨rfl, by omega⟩
  | c :: r, acc, k, hd, h, hk => by
    rw [List.all_cons, Bool.and_eq_true] at hd
    rw [List.length_cons] at hk
    have hc := (digB_iff c).1 hd.1
    have h8 := pow_le8 (k := k) (by omega)
    have hp : (10 : Nat) ^ (k + 1) = 10 ^ k * 10 := Nat.pow_succ 10 k
    have hn : acc * 10 + (c.toNat - 48) < 10 ^ (k + 1) := by omega
    rw [uintM_cons r hc (by omega) (by omega), valD_cons]
    exact valD_parse M hM r _ (k + 1) hd.2 hn (by omega)
theorem valD_int {l : List UInt8} (hd : l.all digB = true) (h1 : 1 ≤ l.length) (h9 : l.length ≤ 9) : Lib.parseIntB 64 l = .ok (valD 0 l : Int) ∧ valD 0 l < 1000000000 := by
  have e64 : (1000000000 : Nat) ≤ 2 ^ 64 - 1 := by decide
  have e63 : (1000000000 : Nat) ≤ 2 ^ (64 - 1) := by decide
  obtain ⟨h2, h3⟩ := valD_parse _ e64 l 0 0 hd (by decide) (by omega)
  refine ⟨?_, h3⟩
  cases l with
  | nil => simp at h1
  | cons c r =>
    have hc := (digB_iff c).1 (by rw [List.all_cons, Bool.and_eq_true] at hd; exact hd.1)
    have hne : ¬ (c.toNat = 43 ∨ c.toNat = 45) := by omega
    have hu : Lib.parseUintB 64 (c :: r) = .ok (valD 0 (c :: r)) := by unfold Lib.parseUintB; rw [if_neg (by simp)]; exact h2
    generalize valD 0 (c :: r) = v at hu h3
    generalize (2 : Nat) ^ (64 - 1) = B at e63
    unfold Lib.parseIntB
    simp only [if_neg hne, hu]
    rw [if_neg (by omega), if_neg (by omega), if_neg (by omega)]

/-- How many digits a text begins with. -/
def dgs (l : List UInt8) : Nat := (l.takeWhile digB).length
theorem dgs_le (l : List UInt8) : dgs l ≤ l.length := (List.takeWhile_prefix _).length_le
theorem dgs_cons {b : UInt8} (r : List UInt8) (h : digB b = true) : dgs (b :: r) = dgs r + 1 := by unfold dgs; rw [List.takeWhile_cons, if_pos h, List.length_cons]
theorem dgs_stop {l : List UInt8} (h : digB (l.headD 0) = false) : dgs l = 0 := by
  unfold dgs
  cases l with
  | nil => rfl
  | cons b r => rw [List.takeWhile_cons, if_neg (by simpa using h)]; rfl
theorem dgs_take (l : List UInt8) : ∀ k, k ≤ dgs l → (l.take k).all digB = true := by
  induction l with
  | nil => intro k _; simp
  | cons b r ih =>
    intro k hk
    cases k with
    | zero => simp
    | succ k =>
      cases hb : digB b with
      | false => rw [dgs_stop (l := b :: r) hb] at hk; omega
      | true =>
        rw [dgs_cons r hb] at hk
        rw [List.take_succ_cons, List.all_cons, hb, ih k (by omega)]; rfl
/-- The number with which a text begins, and what is behind it. -/
def numI (l : List UInt8) : Int × List UInt8 := if dgs l = 0 then (-1, l) else ((valD 0 (l.take (min (dgs l) 9)) : Int), l.drop (min (dgs l) 9))
theorem numI_no {l : List UInt8} (h : dgs l = 0) : numI l = (-1, l) := by unfold numI; rw [if_pos h]
theorem numI_yes {l : List UInt8} (h : dgs l ≠ 0) : numI l = ((valD 0 (l.take (min (dgs l) 9)) : Int), l.drop (min (dgs l) 9)) := by unfold numI; rw [if_neg h]
theorem numI_len (l : List UInt8) : (numI l).2.length ≤ l.length ∧ (0 ≤ (numI l).1 → (numI l).2.length < l.length) ∧ -1 ≤ (numI l).1 ∧ (numI l).1 < 1000000000 := by
  have hle := dgs_le l
  by_cases h : dgs l = 0
  · rw [numI_no h]; exact ⟨Nat.le_refl _, fun h => absurd h (by simp), by simp, by simp⟩
  · rw [numI_yes h]
    have hv := (valD_int (dgs_take l (min (dgs l) 9) (by omega)) (by rw [List.length_take]; omega) (by rw [List.length_take]; omega)).2
    refine ⟨by rw [List.length_drop]; omega, fun _ => by rw [List.length_drop]; omega, by show -1 ≤ ((valD 0 _ : Nat) : Int); omega, by show ((valD 0 _ : Nat) : Int) < 1000000000; omega⟩
theorem decT_dig : ∀ n : Fin 16, ∀ m : Nat, m = n.val → (decT (m : Int)).all digB = true ∧ valD 0 (decT (m : Int)) = m ∧ 1 ≤ (decT (m : Int)).length ∧ (decT (m : Int)).length ≤ 2 := by
  intro n m hm
  have hm16 : m < 16 := by rw [hm]; exact n.isLt
  unfold decT
  rw [Int.toNat_natCast]
  by_cases h : m < 10
  · rw [Lib.decDigits_one h]
    have e := dig_toNat h
    refine ⟨by simp [digB]; omega, by rw [valD_cons, valD_nil, e]; omega, by simp, by simp⟩
  · rw [Lib.decDigits_two h (by omega)]
    have e1 := dig_toNat (d := m / 10) (by omega)
    have e2 := dig_toNat (d := m % 10) (by omega)
    refine ⟨by simp [digB]; omega, by rw [valD_cons, valD_cons, valD_nil, e1, e2]; omega, by simp, by simp⟩
theorem dgs_app {ds r : List UInt8} (hd : ds.all digB = true) (hr : digB (r.headD 0) = false) : dgs (ds ++ r) = ds.length := by
  induction ds with
  | nil => rw [List.nil_append, dgs_stop hr]; rfl
  | cons b ds ih =>
    rw [List.all_cons, Bool.and_eq_true] at hd
    rw [List.cons_append, dgs_cons _ hd.1, ih hd.2, List.length_cons]
theorem numI_dec {n : Int} (h : 0 ≤ n ∧ n ≤ 15) {r : List UInt8} (hr : digB (r.headD 0) = false) : numI (decT n ++ r) = (n, r) := by
  obtain ⟨m, rfl⟩ : ∃ m : Nat, n = m := ⟨n.toNat, by omega⟩
  obtain ⟨h1, h2, h3, h4⟩ := decT_dig ⟨m, by omega⟩ m rfl
  have hd := dgs_app h1 hr
  rw [numI_yes (by omega), hd, show min (decT (m : Int)).length 9 = (decT (m : Int)).length by omega, List.take_left, List.drop_left, h2]
theorem decT_head {n : Int} (h : 0 ≤ n ∧ n ≤ 15) (r : List UInt8) : ∃ b q, decT n ++ r = b :: q ∧ digB b = true := by
  obtain ⟨m, rfl⟩ : ∃ m : Nat, n = m := ⟨n.toNat, by omega⟩
  obtain ⟨h1, h2, h3, h4⟩ := decT_dig ⟨m, by omega⟩ m rfl
  cases hd : decT (m : Int) with
  | nil => rw [hd] at h3; simp at h3
  | cons b q =>
    rw [hd, List.all_cons, Bool.and_eq_true] at h1
    exact ⟨b, q ++ r, rfl, h1.1⟩

/-- A command that begins with a number, where a function reads bodies. -/
def otherI (body : List UInt8 → List R3 × List UInt8) (S : List UInt8) : R3 × List R3 × List UInt8 :=
  match (numI S).2 with
  | 61 :: r => (⟨2, (numI S).1, (numI r).1⟩, [], (numI r).2)
  | 42 :: 40 :: r => (⟨3, (numI S).1, ((body r).1.length : Int)⟩, (body r).1, Lib.trimPrefix (body r).2 [41])
  | 63 :: 40 :: r => (⟨4, (numI S).1, ((body r).1.length : Int)⟩, (body r).1, Lib.trimPrefix (body r).2 [41])
  | S1 => (⟨4, -1, 0⟩, [], S1)
def loopI (body : List UInt8 → List R3 × List UInt8) : Nat → List R3 → List UInt8 → List R3 × List UInt8
  | 0, ts, S => (ts, S)
  | n + 1, ts, S => match S with
    | [] => (ts, [])
    | b :: r =>
      if b = 41 ∨ 150 < ts.length then (ts, b :: r)
      else if b = 59 then loopI body n ts r
      else if b = 33 then (if (numI r).1 < 0 then (ts ++ [⟨0, (numI r).1, 0⟩], (numI r).2) else loopI body n (ts ++ [⟨0, (numI r).1, 0⟩]) (numI r).2)
      else if b = 43 then (if (numI r).1 < 0 then (ts ++ [⟨1, (numI r).1, 0⟩], (numI r).2) else loopI body n (ts ++ [⟨1, (numI r).1, 0⟩]) (numI r).2)
      else (if (otherI body (b :: r)).1.b < 0 then (ts ++ [(otherI body (b :: r)).1] ++ (otherI body (b :: r)).2.1, (otherI body (b :: r)).2.2)
        else loopI body n (ts ++ [(otherI body (b :: r)).1] ++ (otherI body (b :: r)).2.1) (otherI body (b :: r)).2.2)
/-- The commands that are read with so many bodies to open, and what is behind. -/
def rdI : Nat → List UInt8 → List R3 × List UInt8
  | 0, S => ([], S)
  | d + 1, S => loopI (rdI d) S.length [] S
end Go.Proofs.YtgcedfpjgdeakaaDoor

/- The text of a valid loop program, read, is the program. Plain lemmas. -/
namespace Go.Proofs.YtgcedfpjgdeakaaDoor
open Go.RowKit
set_option linter.all false

/-- What may stand behind commands. -/
def sepR (r : List UInt8) : Prop := r = [] ∨ ∃ q, r = 41 :: q
theorem sepR_head {r : List UInt8} (h : sepR r) : digB (r.headD 0) = false := by
  rcases h with rfl | ⟨q, rfl⟩ <;> rfl
theorem tail_head {l : List R3} {r : List UInt8} (h : sepR r) : digB ((tailT l ++ r).headD 0) = false := by
  cases l with
  | nil => rw [tailT_nil]; exact sepR_head h
  | cons x l => rw [tailT_cons]; rfl
section
variable (body : List UInt8 → List R3 × List UInt8)
theorem loopI_stop {n : Nat} {ts : List R3} {r : List UInt8} (h : sepR r) : loopI body n ts r = (ts, r) := by
  cases n with
  | zero => rw [loopI]
  | succ n =>
    rcases h with rfl | ⟨q, rfl⟩
    · rw [loopI]
    · rw [loopI, if_pos (.inl rfl)]
theorem loopI_semi {n : Nat} {ts : List R3} (r : List UInt8) (h : ts.length ≤ 150) : loopI body (n + 1) ts (59 :: r) = loopI body n ts r := by
  rw [loopI, if_neg (by intro e; rcases e with e | e; exact absurd e (by decide); omega), if_pos rfl]
theorem loopI_zero {n : Nat} {ts : List R3} (r : List UInt8) (h : ts.length ≤ 150) (hn : ¬ (numI r).1 < 0) : loopI body (n + 1) ts (33 :: r) = loopI body n (ts ++ [⟨0, (numI r).1, 0⟩]) (numI r).2 := by
  rw [loopI, if_neg (by intro e; rcases e with e | e; exact absurd e (by decide); omega), if_neg (by decide), if_pos rfl, if_neg hn]
theorem loopI_inc {n : Nat} {ts : List R3} (r : List UInt8) (h : ts.length ≤ 150) (hn : ¬ (numI r).1 < 0) : loopI body (n + 1) ts (43 :: r) = loopI body n (ts ++ [⟨1, (numI r).1, 0⟩]) (numI r).2 := by
  rw [loopI, if_neg (by intro e; rcases e with e | e; exact absurd e (by decide); omega), if_neg (by decide), if_neg (by decide), if_pos rfl, if_neg hn]
theorem dig_ne {b c : UInt8} (h : digB b = true) (hc : digB c = false) : b ≠ c := by
  rintro rfl; rw [h] at hc; cases hc
theorem loopI_other {n : Nat} {ts : List R3} {b : UInt8} (r : List UInt8) (h : ts.length ≤ 150) (hb : digB b = true) {o : R3 × List R3 × List UInt8} (ho : otherI body (b :: r) = o) (hn : ¬ o.1.b < 0) : loopI body (n + 1) ts (b :: r) = loopI body n (ts ++ [o.1] ++ o.2.1) o.2.2 := by
  subst ho
  rw [loopI, if_neg (by intro e; rcases e with e | e; exact dig_ne hb (by decide) e; omega), if_neg (dig_ne hb (by decide)), if_neg (dig_ne hb (by decide)), if_neg (dig_ne hb (by decide)), if_neg hn]
theorem otherI_copy {S r : List UInt8} {n m : Int} {q : List UInt8} (h : numI S = (n, 61 :: r)) (h2 : numI r = (m, q)) : otherI body S = (⟨2, n, m⟩, [], q) := by
  unfold otherI; rw [h]; simp only [h2]
theorem otherI_times {S r : List UInt8} {n : Int} {l : List R3} {q : List UInt8} (h : numI S = (n, 42 :: 40 :: r)) (h2 : body r = (l, q)) : otherI body S = (⟨3, n, (l.length : Int)⟩, l, Lib.trimPrefix q [41]) := by
  unfold otherI; rw [h]; simp only [h2]
theorem otherI_again {S r : List UInt8} {n : Int} {l : List R3} {q : List UInt8} (h : numI S = (n, 63 :: 40 :: r)) (h2 : body r = (l, q)) : otherI body S = (⟨4, n, (l.length : Int)⟩, l, Lib.trimPrefix q [41]) := by
  unfold otherI; rw [h]; simp only [h2]
end
theorem trim_close (r : List UInt8) : Lib.trimPrefix (41 :: r) [41] = r := by
  unfold Lib.trimPrefix
  rw [if_pos (by simp [Lib.hasPrefix])]; rfl
theorem vl_c0 {d : Nat} {x : R3} {l : List R3} (h : vl d (x :: l) = true) (ha : x.a = 0 ∨ x.a = 1) : x.c = 0 ∧ isLp x = false := by
  have hl : isLp x = false := by unfold isLp; simp; omega
  cases hb : inB x.b 0 15 with
  | false => rw [vl_no1 hb] at h; cases h
  | true =>
    rw [vl_el hb hl (by omega)] at h
    simp only [Bool.and_eq_true, decide_eq_true_eq] at h
    exact ⟨h.1.2, hl⟩
theorem vl_cl {d : Nat} {x : R3} {l : List R3} (h : vl d (x :: l) = true) (ha : x.a = 3 ∨ x.a = 4) : 0 ≤ x.c ∧ x.c ≤ (l.length : Int) ∧ isLp x = true ∧ 0 < d ∧ vl (d - 1) (l.take x.c.toNat) = true := by
  have hl : isLp x = true := by unfold isLp; simp; omega
  cases hb : inB x.b 0 15 with
  | false => rw [vl_no1 hb] at h; cases h
  | true =>
    rw [vl_lp hb hl] at h
    simp only [Bool.and_eq_true, decide_eq_true_eq] at h
    have := (inB_iff _ _ _).1 h.1.1.2
    exact ⟨this.1, this.2, hl, h.1.1.1, h.1.2⟩

theorem loop_text (d : Nat) (hb : ∀ (m : List R3) (rest : List UInt8), 0 < d → vl (d - 1) m = true → m.length ≤ 150 → sepR rest → rdI d (textL m ++ rest) = (m, rest)) :
    ∀ (N : Nat) (m : List R3), m.length ≤ N → ∀ (n : Nat) (ts : List R3) (rest : List UInt8), vl d m = true → ts.length + m.length ≤ 150 → sepR rest →
      ((textL m ++ rest).length ≤ n → loopI (rdI d) n ts (textL m ++ rest) = (ts ++ m, rest)) ∧ ((tailT m ++ rest).length ≤ n → loopI (rdI d) n ts (tailT m ++ rest) = (ts ++ m, rest)) := by
  intro N
  induction N with
  | zero =>
    intro m hm n ts rest _ _ hs
    have : m = [] := List.length_eq_zero_iff.1 (by omega)
    subst this
    rw [textL_nil, tailT_nil, List.nil_append, List.append_nil]
    exact ⟨fun _ => loopI_stop _ hs, fun _ => loopI_stop _ hs⟩
  | succ N ih =>
    intro m hm
    cases m with
    | nil =>
      intro n ts rest _ _ hs
      rw [textL_nil, tailT_nil, List.nil_append, List.append_nil]
      exact ⟨fun _ => loopI_stop _ hs, fun _ => loopI_stop _ hs⟩
    | cons x l =>
      have key : ∀ (n : Nat) (ts : List R3) (rest : List UInt8), vl d (x :: l) = true → ts.length + (x :: l).length ≤ 150 → sepR rest → (textL (x :: l) ++ rest).length ≤ n → loopI (rdI d) n ts (textL (x :: l) ++ rest) = (ts ++ x :: l, rest) := by
        intro n ts rest hv hl hs hn
        obtain ⟨b0, b15, hk⟩ := vl_kind hv
        obtain ⟨s1, s2, s3⟩ := vl_split hv
        rw [List.length_cons] at hl hm
        obtain ⟨T, hT⟩ : ∃ T, tailT (l.drop (bodyLen x)) ++ rest = T := ⟨_, rfl⟩
        have hTh : digB (T.headD 0) = false := by rw [← hT]; exact tail_head hs
        have hrest := fun n ts hl2 hn2 => (ih (l.drop (bodyLen x)) (by rw [List.length_drop]; omega) n ts rest s2 hl2 hs).2 hn2
        rw [hT] at hrest
        have hS : textL (x :: l) ++ rest = cmdT x (textL (l.take (bodyLen x))) ++ T := by rw [textL_cons, List.append_assoc, hT]
        rw [hS] at hn ⊢
        have hts : ts.length ≤ 150 := by omega
        have fin : ∀ n2, T.length ≤ n2 → loopI (rdI d) n2 (ts ++ [x] ++ l.take (bodyLen x)) T = (ts ++ x :: l, rest) := by
          intro n2 h2
          rw [hrest n2 _ (by rw [List.length_append, List.length_append, List.length_take, List.length_drop, List.length_singleton]; omega) h2, List.append_assoc, List.append_assoc, List.take_append_drop]
          rfl
        obtain ⟨xa, xb, xc⟩ := x
        dsimp only at b0 b15 hk
        rcases hk with rfl | rfl | rfl | rfl | ⟨rfl, c0, c15⟩
        · obtain ⟨hc, hlp⟩ := vl_c0 hv (.inl rfl)
          dsimp only at hc
          subst hc
          have hbl : bodyLen ⟨0, xb, 0⟩ = 0 := bodyLen_no hlp
          rw [hbl, List.take_zero, List.append_nil] at fin
          have hcm : cmdT ⟨0, xb, 0⟩ (textL (l.take (bodyLen ⟨0, xb, 0⟩))) ++ T = 33 :: (decT xb ++ T) := by simp [cmdT]
          rw [hcm] at hn ⊢
          have hnum := numI_dec ⟨b0, b15⟩ hTh
          rw [List.length_cons, List.length_append] at hn
          obtain ⟨n2, rfl⟩ : ∃ n2, n = n2 + 1 := ⟨n - 1, by omega⟩
          rw [loopI_zero _ _ hts (by rw [hnum]; show ¬ xb < 0; omega), hnum]
          exact fin n2 (by omega)
        · obtain ⟨hc, hlp⟩ := vl_c0 hv (.inr rfl)
          dsimp only at hc
          subst hc
          have hbl : bodyLen ⟨1, xb, 0⟩ = 0 := bodyLen_no hlp
          rw [hbl, List.take_zero, List.append_nil] at fin
          have hcm : cmdT ⟨1, xb, 0⟩ (textL (l.take (bodyLen ⟨1, xb, 0⟩))) ++ T = 43 :: (decT xb ++ T) := by simp [cmdT]
          rw [hcm] at hn ⊢
          have hnum := numI_dec ⟨b0, b15⟩ hTh
          rw [List.length_cons, List.length_append] at hn
          obtain ⟨n2, rfl⟩ : ∃ n2, n = n2 + 1 := ⟨n - 1, by omega⟩
          rw [loopI_inc _ _ hts (by rw [hnum]; show ¬ xb < 0; omega), hnum]
          exact fin n2 (by omega)
        · obtain ⟨hc1, hc2, hlp, hd0, hvb⟩ := vl_cl hv (.inl rfl)
          dsimp only at hc1 hc2 hvb
          have hbl : bodyLen ⟨3, xb, xc⟩ = xc.toNat := bodyLen_lp hlp
          rw [hbl] at fin hn ⊢
          obtain ⟨l1, hl1⟩ : ∃ l1, l.take xc.toNat = l1 := ⟨_, rfl⟩
          have hll : (l1.length : Int) = xc := by rw [← hl1, List.length_take]; omega
          rw [hl1] at fin hn hvb ⊢
          have hcm : cmdT ⟨3, xb, xc⟩ (textL l1) ++ T = decT xb ++ 42 :: 40 :: (textL l1 ++ 41 :: T) := by simp [cmdT]
          rw [hcm] at hn ⊢
          have hnum := numI_dec (n := xb) ⟨b0, b15⟩ (r := 42 :: 40 :: (textL l1 ++ 41 :: T)) rfl
          obtain ⟨b, q, hbq, hdb⟩ := decT_head (n := xb) ⟨b0, b15⟩ (42 :: 40 :: (textL l1 ++ 41 :: T))
          have hbody := hb l1 (41 :: T) hd0 hvb (by rw [← hl1, List.length_take]; omega) (.inr ⟨T, rfl⟩)
          have hlen : T.length + 1 ≤ n := by
            rw [List.length_append, List.length_cons, List.length_cons, List.length_append, List.length_cons] at hn; omega
          obtain ⟨n2, rfl⟩ : ∃ n2, n = n2 + 1 := ⟨n - 1, by omega⟩
          rw [hbq] at hnum ⊢
          rw [loopI_other _ _ hts hdb (otherI_times _ hnum hbody) (by show ¬ xb < 0; omega), trim_close, hll]
          exact fin n2 (by omega)
        · obtain ⟨hc1, hc2, hlp, hd0, hvb⟩ := vl_cl hv (.inr rfl)
          dsimp only at hc1 hc2 hvb
          have hbl : bodyLen ⟨4, xb, xc⟩ = xc.toNat := bodyLen_lp hlp
          rw [hbl] at fin hn ⊢
          obtain ⟨l1, hl1⟩ : ∃ l1, l.take xc.toNat = l1 := ⟨_, rfl⟩
          have hll : (l1.length : Int) = xc := by rw [← hl1, List.length_take]; omega
          rw [hl1] at fin hn hvb ⊢
          have hcm : cmdT ⟨4, xb, xc⟩ (textL l1) ++ T = decT xb ++ 63 :: 40 :: (textL l1 ++ 41 :: T) := by simp [cmdT]
          rw [hcm] at hn ⊢
          have hnum := numI_dec (n := xb) ⟨b0, b15⟩ (r := 63 :: 40 :: (textL l1 ++ 41 :: T)) rfl
          obtain ⟨b, q, hbq, hdb⟩ := decT_head (n := xb) ⟨b0, b15⟩ (63 :: 40 :: (textL l1 ++ 41 :: T))
          have hbody := hb l1 (41 :: T) hd0 hvb (by rw [← hl1, List.length_take]; omega) (.inr ⟨T, rfl⟩)
          have hlen : T.length + 1 ≤ n := by
            rw [List.length_append, List.length_cons, List.length_cons, List.length_append, List.length_cons] at hn; omega
          obtain ⟨n2, rfl⟩ : ∃ n2, n = n2 + 1 := ⟨n - 1, by omega⟩
          rw [hbq] at hnum ⊢
          rw [loopI_other _ _ hts hdb (otherI_again _ hnum hbody) (by show ¬ xb < 0; omega), trim_close, hll]
          exact fin n2 (by omega)
        · have hlp : isLp ⟨2, xb, xc⟩ = false := by unfold isLp; simp
          have hbl : bodyLen ⟨2, xb, xc⟩ = 0 := bodyLen_no hlp
          rw [hbl, List.take_zero] at fin
          have hcm : cmdT ⟨2, xb, xc⟩ (textL (l.take (bodyLen ⟨2, xb, xc⟩))) ++ T = decT xb ++ 61 :: (decT xc ++ T) := by simp [cmdT]
          rw [hcm] at hn ⊢
          have hnum := numI_dec (n := xb) ⟨b0, b15⟩ (r := 61 :: (decT xc ++ T)) rfl
          have hnum2 := numI_dec (n := xc) ⟨c0, c15⟩ hTh
          obtain ⟨b, q, hbq, hdb⟩ := decT_head (n := xb) ⟨b0, b15⟩ (61 :: (decT xc ++ T))
          have hlen : T.length + 1 ≤ n := by
            rw [List.length_append, List.length_cons, List.length_append] at hn; omega
          obtain ⟨n2, rfl⟩ : ∃ n2, n = n2 + 1 := ⟨n - 1, by omega⟩
          rw [hbq] at hnum ⊢
          rw [loopI_other _ _ hts hdb (otherI_copy _ hnum hnum2) (by show ¬ xb < 0; omega)]
          exact fin n2 (by omega)
      intro n ts rest hv hl hs
      refine ⟨key n ts rest hv hl hs, fun hn => ?_⟩
      rw [tailT_cons, List.cons_append] at hn ⊢
      rw [List.length_cons] at hn
      obtain ⟨n2, rfl⟩ : ∃ n2, n = n2 + 1 := ⟨n - 1, by omega⟩
      rw [loopI_semi _ _ (by omega)]
      exact key n2 ts rest hv hl hs (by omega)
theorem rd_text : ∀ (d : Nat) (m : List R3) (rest : List UInt8), vl d m = true → m.length ≤ 150 → sepR rest → rdI (d + 1) (textL m ++ rest) = (m, rest) := by
  intro d
  induction d with
  | zero =>
    intro m rest hv hl hs
    rw [rdI]
    have := (loop_text 0 (fun _ _ h => absurd h (by omega)) m.length m (Nat.le_refl _) _ [] rest hv (by simpa using hl) hs).1 (Nat.le_refl _)
    rw [this, List.nil_append]
  | succ d ih =>
    intro m rest hv hl hs
    rw [rdI]
    have := (loop_text (d + 1) (fun m rest _ h1 h2 h3 => ih m rest (by simpa using h1) h2 h3) m.length m (Nat.le_refl _) _ [] rest hv (by simpa using hl) hs).1 (Nat.le_refl _)
    rw [this, List.nil_append]
/-- What ReadLoop gives. -/
def readOkL (S : List UInt8) (l : List R3) : Bool := validL l && decide (textL l = S)
def readLoop (s : ByteArray) : List R3 × Bool := if readOkL s.data.toList (rdI 8 s.data.toList).1 = true then ((rdI 8 s.data.toList).1, true) else ([], false)
theorem readOk_rd {S : List UInt8} {l : List R3} (h : readOkL S l = true) : (rdI 8 S).1 = l := by
  unfold readOkL validL at h
  simp only [Bool.and_eq_true, decide_eq_true_eq] at h
  have := rd_text 7 l [] h.1.2 h.1.1 (.inl rfl)
  rw [List.append_nil, h.2] at this
  rw [this]
theorem readLoop_yes {s : ByteArray} {l : List R3} (h : readOkL s.data.toList l = true) : readLoop s = (l, true) := by
  unfold readLoop
  rw [readOk_rd h, if_pos h]
theorem readLoop_no {s : ByteArray} (h : ∀ l, readOkL s.data.toList l = false) : readLoop s = ([], false) := by
  unfold readLoop
  rw [if_neg (by rw [h]; decide)]
theorem bndReadLoop0 (s : ByteArray) : (readLoop s).1.length ≤ 1048576 := by
  unfold readLoop
  split
  · rename_i h
    unfold readOkL validL at h
    simp only [Bool.and_eq_true, decide_eq_true_eq] at h
    have := h.1.1
    show (rdI 8 s.data.toList).1.length ≤ 1048576
    omega
  · simp
end Go.Proofs.YtgcedfpjgdeakaaDoor

/- Reading the text of a loop program, as the reference does it: plain functions, and that the text of a valid program gives the program. -/
namespace Go.Proofs.YtgcedfpjgdeakaaDoor
open Go.RowKit
set_option linter.all false

/-- The number of one or two digits with which a text begins. -/
def smallS (l : List UInt8) : Int × List UInt8 := if min (dgs l) 2 = 0 ∨ (min (dgs l) 2 = 2 ∧ l.headD 0 = 48) then (-1, l) else ((valD 0 (l.take (min (dgs l) 2)) : Int), l.drop (min (dgs l) 2))
theorem smallS_no {l : List UInt8} (h : min (dgs l) 2 = 0 ∨ (min (dgs l) 2 = 2 ∧ l.headD 0 = 48)) : smallS l = (-1, l) := by unfold smallS; rw [if_pos h]
theorem smallS_yes {l : List UInt8} (h : ¬ (min (dgs l) 2 = 0 ∨ (min (dgs l) 2 = 2 ∧ l.headD 0 = 48))) : smallS l = ((valD 0 (l.take (min (dgs l) 2)) : Int), l.drop (min (dgs l) 2)) := by unfold smallS; rw [if_neg h]
theorem smallS_len (l : List UInt8) : (smallS l).2.length ≤ l.length ∧ (0 ≤ (smallS l).1 → (smallS l).2.length < l.length) ∧ -1 ≤ (smallS l).1 ∧ (smallS l).1 < 1000000000 := by
  have hle := dgs_le l
  by_cases h : min (dgs l) 2 = 0 ∨ (min (dgs l) 2 = 2 ∧ l.headD 0 = 48)
  · rw [smallS_no h]; exact ⟨Nat.le_refl _, fun h => absurd h (by simp), by simp, by simp⟩
  · rw [smallS_yes h]
    have hv := (valD_int (dgs_take l (min (dgs l) 2) (by omega)) (by rw [List.length_take]; omega) (by rw [List.length_take]; omega)).2
    refine ⟨by rw [List.length_drop]; omega, fun _ => by rw [List.length_drop]; omega, by show -1 ≤ ((valD 0 _ : Nat) : Int); omega, by show ((valD 0 _ : Nat) : Int) < 1000000000; omega⟩
theorem decT_two {m : Nat} (hm : m < 16) (h2 : (decT (m : Int)).length = 2) : (decT (m : Int)).headD 0 ≠ 48 := by
  unfold decT at h2 ⊢
  rw [Int.toNat_natCast] at h2 ⊢
  by_cases h : m < 10
  · rw [Lib.decDigits_one h] at h2; simp at h2
  · rw [Lib.decDigits_two h (by omega)]
    have e1 := dig_toNat (d := m / 10) (by omega)
    intro e
    have := congrArg UInt8.toNat e
    simp only [List.headD_cons] at this
    rw [e1] at this
    have h48 : (48 : UInt8).toNat = 48 := rfl
    omega
theorem smallS_dec {n : Int} (h : 0 ≤ n ∧ n ≤ 15) {r : List UInt8} (hr : digB (r.headD 0) = false) : smallS (decT n ++ r) = (n, r) := by
  obtain ⟨m, rfl⟩ : ∃ m : Nat, n = m := ⟨n.toNat, by omega⟩
  obtain ⟨h1, h2, h3, h4⟩ := decT_dig ⟨m, by omega⟩ m rfl
  have hd := dgs_app h1 hr
  have hk : min (decT (m : Int)).length 2 = (decT (m : Int)).length := by omega
  have hh : (decT (m : Int) ++ r).headD 0 = (decT (m : Int)).headD 0 := by
    cases hq : decT (m : Int) with
    | nil => rw [hq] at h3; simp at h3
    | cons b q => rfl
  rw [smallS_yes (by rw [hd, hk, hh]; intro e; rcases e with e | ⟨e, e2⟩; omega; exact decT_two (by omega) e e2), hd, hk, List.take_left, List.drop_left, h2]

/-- A body that was read: the command and what is behind the parenthesis. -/
def closeS (k n : Int) (o : Option (List R3 × List UInt8)) : Option (R3 × List R3 × List UInt8) :=
  o.bind fun p => if p.2.headD 0 = 41 then some (⟨k, n, (p.1.length : Int)⟩, p.1, p.2.tail) else none
theorem closeS_yes (k n : Int) (l : List R3) (q : List UInt8) : closeS k n (some (l, 41 :: q)) = some (⟨k, n, (l.length : Int)⟩, l, q) := by unfold closeS; rw [Option.bind_some]; exact if_pos rfl
theorem closeS_none (k n : Int) : closeS k n none = none := rfl
theorem closeS_no (k n : Int) (l : List R3) {q : List UInt8} (h : q.headD 0 ≠ 41) : closeS k n (some (l, q)) = none := by unfold closeS; rw [Option.bind_some, if_neg h]
/-- A command behind its first number. -/
def restS (body : List UInt8 → Option (List R3 × List UInt8)) (n : Int) (q : List UInt8) : Option (R3 × List R3 × List UInt8) :=
  if q.headD 0 = 61 then (if (smallS q.tail).1 < 0 then none else some (⟨2, n, (smallS q.tail).1⟩, [], (smallS q.tail).2))
  else if q.headD 0 = 42 ∨ q.headD 0 = 63 then (if q.tail.headD 0 = 40 then closeS (if q.headD 0 = 63 then 4 else 3) n (body q.tail.tail) else none)
  else none
/-- One command, where a function reads bodies. -/
def oneS (body : List UInt8 → Option (List R3 × List UInt8)) (S : List UInt8) : Option (R3 × List R3 × List UInt8) :=
  if S.headD 0 = 33 ∨ S.headD 0 = 43 then (if (smallS S.tail).1 < 0 then none else some (⟨if S.headD 0 = 43 then 1 else 0, (smallS S.tail).1, 0⟩, [], (smallS S.tail).2))
  else if (smallS S).1 < 0 then none else restS body (smallS S).1 (smallS S).2
def ploop (body : List UInt8 → Option (List R3 × List UInt8)) : Nat → List R3 → List UInt8 → Option (List R3 × List UInt8)
  | 0, _, _ => none
  | n + 1, ts, S => (oneS body S).bind fun p => if 150 < (ts ++ [p.1] ++ p.2.1).length then none else
      if p.2.2.headD 0 = 59 then ploop body n (ts ++ [p.1] ++ p.2.1) p.2.2.tail else some (ts ++ [p.1] ++ p.2.1, p.2.2)
def prsS : Nat → List UInt8 → Option (List R3 × List UInt8)
  | 0, _ => none
  | d + 1, S => if S = [] ∨ S.headD 0 = 41 then some ([], S) else ploop (prsS d) (S.length + 1) [] S

theorem oneS_sign (body : List UInt8 → Option (List R3 × List UInt8)) {c : UInt8} (h : c = 33 ∨ c = 43) (r : List UInt8) {n : Int} {T : List UInt8} (hs : smallS r = (n, T)) (hn : ¬ n < 0) : oneS body (c :: r) = some (⟨if c = 43 then 1 else 0, n, 0⟩, [], T) := by
  unfold oneS
  rw [if_pos (by simpa using h), List.tail_cons, hs, if_neg hn]; rfl
theorem oneS_dig (body : List UInt8 → Option (List R3 × List UInt8)) {S : List UInt8} {b : UInt8} {q : List UInt8} (hS : S = b :: q) (hd : digB b = true) {n : Int} {T : List UInt8} (hs : smallS S = (n, T)) (hn : ¬ n < 0) : oneS body S = restS body n T := by
  have h33 := dig_ne hd (c := 33) rfl
  have h43 := dig_ne hd (c := 43) rfl
  unfold oneS
  rw [if_neg (by rw [hS]; intro e; rcases e with e | e; exact h33 e; exact h43 e), hs, if_neg hn]
theorem oneS_cmd (d : Nat) (hb : ∀ (m : List R3) (rest : List UInt8), 0 < d → vl (d - 1) m = true → m.length ≤ 150 → sepR rest → prsS d (textL m ++ rest) = some (m, rest)) (x : R3) (l : List R3) (T : List UInt8) (hv : vl d (x :: l) = true) (hl : l.length ≤ 150) (hT : digB (T.headD 0) = false) :
    oneS (prsS d) (cmdT x (textL (l.take (bodyLen x))) ++ T) = some (x, l.take (bodyLen x), T) := by
  obtain ⟨b0, b15, hk⟩ := vl_kind hv
  obtain ⟨xa, xb, xc⟩ := x
  dsimp only at b0 b15 hk
  rcases hk with rfl | rfl | rfl | rfl | ⟨rfl, c0, c15⟩
  · obtain ⟨hc, hlp⟩ := vl_c0 hv (.inl rfl)
    dsimp only at hc
    subst hc
    have hbl : bodyLen ⟨0, xb, 0⟩ = 0 := bodyLen_no hlp
    have hcm : cmdT ⟨0, xb, 0⟩ (textL (l.take (bodyLen ⟨0, xb, 0⟩))) ++ T = 33 :: (decT xb ++ T) := by simp [cmdT]
    rw [hcm, hbl, List.take_zero]
    have hnum := smallS_dec ⟨b0, b15⟩ hT
    rw [oneS_sign _ (.inl rfl) _ hnum (by omega)]; rfl
  · obtain ⟨hc, hlp⟩ := vl_c0 hv (.inr rfl)
    dsimp only at hc
    subst hc
    have hbl : bodyLen ⟨1, xb, 0⟩ = 0 := bodyLen_no hlp
    have hcm : cmdT ⟨1, xb, 0⟩ (textL (l.take (bodyLen ⟨1, xb, 0⟩))) ++ T = 43 :: (decT xb ++ T) := by simp [cmdT]
    rw [hcm, hbl, List.take_zero]
    have hnum := smallS_dec ⟨b0, b15⟩ hT
    rw [oneS_sign _ (.inr rfl) _ hnum (by omega)]; rfl
  · obtain ⟨hc1, hc2, hlp, hd0, hvb⟩ := vl_cl hv (.inl rfl)
    dsimp only at hc1 hc2 hvb
    have hbl : bodyLen ⟨3, xb, xc⟩ = xc.toNat := bodyLen_lp hlp
    rw [hbl]
    obtain ⟨l1, hl1⟩ : ∃ l1, l.take xc.toNat = l1 := ⟨_, rfl⟩
    have hll : (l1.length : Int) = xc := by rw [← hl1, List.length_take]; omega
    rw [hl1] at hvb ⊢
    have hcm : cmdT ⟨3, xb, xc⟩ (textL l1) ++ T = decT xb ++ 42 :: 40 :: (textL l1 ++ 41 :: T) := by simp [cmdT]
    rw [hcm]
    have hnum := smallS_dec (n := xb) ⟨b0, b15⟩ (r := 42 :: 40 :: (textL l1 ++ 41 :: T)) rfl
    obtain ⟨b, q, hbq, hdb⟩ := decT_head (n := xb) ⟨b0, b15⟩ (42 :: 40 :: (textL l1 ++ 41 :: T))
    have hbody := hb l1 (41 :: T) hd0 hvb (by rw [← hl1, List.length_take]; omega) (.inr ⟨T, rfl⟩)
    rw [oneS_dig _ hbq hdb hnum (by omega)]
    unfold restS
    rw [if_neg (by simp), if_pos (by simp), if_pos (by simp)]
    simp only [List.tail_cons, List.headD_cons]
    rw [hbody, closeS_yes, hll]
    rfl
  · obtain ⟨hc1, hc2, hlp, hd0, hvb⟩ := vl_cl hv (.inr rfl)
    dsimp only at hc1 hc2 hvb
    have hbl : bodyLen ⟨4, xb, xc⟩ = xc.toNat := bodyLen_lp hlp
    rw [hbl]
    obtain ⟨l1, hl1⟩ : ∃ l1, l.take xc.toNat = l1 := ⟨_, rfl⟩
    have hll : (l1.length : Int) = xc := by rw [← hl1, List.length_take]; omega
    rw [hl1] at hvb ⊢
    have hcm : cmdT ⟨4, xb, xc⟩ (textL l1) ++ T = decT xb ++ 63 :: 40 :: (textL l1 ++ 41 :: T) := by simp [cmdT]
    rw [hcm]
    have hnum := smallS_dec (n := xb) ⟨b0, b15⟩ (r := 63 :: 40 :: (textL l1 ++ 41 :: T)) rfl
    obtain ⟨b, q, hbq, hdb⟩ := decT_head (n := xb) ⟨b0, b15⟩ (63 :: 40 :: (textL l1 ++ 41 :: T))
    have hbody := hb l1 (41 :: T) hd0 hvb (by rw [← hl1, List.length_take]; omega) (.inr ⟨T, rfl⟩)
    rw [oneS_dig _ hbq hdb hnum (by omega)]
    unfold restS
    rw [if_neg (by simp), if_pos (by simp), if_pos (by simp)]
    simp only [List.tail_cons, List.headD_cons]
    rw [hbody, closeS_yes, hll]
    rfl
  · have hlp : isLp ⟨2, xb, xc⟩ = false := by unfold isLp; simp
    have hbl : bodyLen ⟨2, xb, xc⟩ = 0 := bodyLen_no hlp
    have hcm : cmdT ⟨2, xb, xc⟩ (textL (l.take (bodyLen ⟨2, xb, xc⟩))) ++ T = decT xb ++ 61 :: (decT xc ++ T) := by simp [cmdT]
    rw [hcm, hbl, List.take_zero]
    have hnum := smallS_dec (n := xb) ⟨b0, b15⟩ (r := 61 :: (decT xc ++ T)) rfl
    have hnum2 := smallS_dec (n := xc) ⟨c0, c15⟩ hT
    obtain ⟨b, q, hbq, hdb⟩ := decT_head (n := xb) ⟨b0, b15⟩ (61 :: (decT xc ++ T))
    rw [oneS_dig _ hbq hdb hnum (by omega)]
    unfold restS
    rw [if_pos (by simp), List.tail_cons, hnum2, if_neg (by show ¬ xc < 0; omega)]
theorem sep59 {r : List UInt8} (h : sepR r) : ¬ r.headD 0 = 59 := by
  rcases h with rfl | ⟨q, rfl⟩
  · decide
  · show ¬ (41 : UInt8) = 59; decide
theorem ploop_text (d : Nat) (hb : ∀ (m : List R3) (rest : List UInt8), 0 < d → vl (d - 1) m = true → m.length ≤ 150 → sepR rest → prsS d (textL m ++ rest) = some (m, rest)) :
    ∀ (N : Nat) (x : R3) (l : List R3), l.length ≤ N → ∀ (n : Nat) (ts : List R3) (rest : List UInt8), vl d (x :: l) = true → ts.length + (x :: l).length ≤ 150 → sepR rest →
      (textL (x :: l) ++ rest).length < n → ploop (prsS d) n ts (textL (x :: l) ++ rest) = some (ts ++ x :: l, rest) := by
  intro N
  induction N with
  | zero =>
    intro x l hm n ts rest hv hl hs hn
    have : l = [] := List.length_eq_zero_iff.1 (by omega)
    subst this
    obtain ⟨n2, rfl⟩ : ∃ n2, n = n2 + 1 := ⟨n - 1, by omega⟩
    have h1 := oneS_cmd d hb x [] rest hv (by simp) (sepR_head hs)
    rw [textL_cons, List.drop_nil, tailT_nil, List.append_nil, ploop, h1, Option.bind_some]
    dsimp only
    rw [List.take_nil, List.append_nil, if_neg (by rw [List.length_append, List.length_singleton]; rw [List.length_singleton] at hl; omega), if_neg (sep59 hs)]
  | succ N ih =>
    intro x l hm n ts rest hv hl hs hn
    obtain ⟨n2, rfl⟩ : ∃ n2, n = n2 + 1 := ⟨n - 1, by omega⟩
    obtain ⟨s1, s2, s3⟩ := vl_split hv
    rw [List.length_cons] at hl
    obtain ⟨T, hT⟩ : ∃ T, tailT (l.drop (bodyLen x)) ++ rest = T := ⟨_, rfl⟩
    have h1 := oneS_cmd d hb x l T hv (by omega) (by rw [← hT]; exact tail_head hs)
    have hS : textL (x :: l) ++ rest = cmdT x (textL (l.take (bodyLen x))) ++ T := by rw [textL_cons, List.append_assoc, hT]
    rw [hS] at hn ⊢
    rw [ploop, h1, Option.bind_some]
    dsimp only
    rw [if_neg (by rw [List.length_append, List.length_append, List.length_take, List.length_singleton]; omega)]
    rw [List.length_append] at hn
    have htd : l.take (bodyLen x) ++ l.drop (bodyLen x) = l := List.take_append_drop _ _
    cases hd : l.drop (bodyLen x) with
    | nil =>
      rw [hd, tailT_nil, List.nil_append] at hT
      rw [hd, List.append_nil] at htd
      rw [← hT, if_neg (sep59 hs), htd, List.append_assoc]
      rfl
    | cons y l2 =>
      rw [hd] at hT s2 htd
      rw [tailT_cons, List.cons_append] at hT
      rw [← hT, if_pos (show (59 :: (textL (y :: l2) ++ rest)).headD 0 = 59 from rfl), List.tail_cons]
      have hl2 := congrArg List.length hd
      rw [List.length_drop, List.length_cons] at hl2
      rw [← hT, List.length_cons] at hn
      rw [ih y l2 (by omega) n2 _ rest s2 (by rw [List.length_append, List.length_append, List.length_take, List.length_singleton, List.length_cons]; omega) hs (by omega), List.append_assoc, List.append_assoc, htd]
      rfl
theorem prs_text : ∀ (d : Nat) (m : List R3) (rest : List UInt8), vl d m = true → m.length ≤ 150 → sepR rest → prsS (d + 1) (textL m ++ rest) = some (m, rest) := by
  have step : ∀ (d : Nat), (∀ (m : List R3) (rest : List UInt8), 0 < d → vl (d - 1) m = true → m.length ≤ 150 → sepR rest → prsS d (textL m ++ rest) = some (m, rest)) → ∀ (m : List R3) (rest : List UInt8), vl d m = true → m.length ≤ 150 → sepR rest → prsS (d + 1) (textL m ++ rest) = some (m, rest) := by
    intro d hb m rest hv hl hs
    rw [prsS]
    cases m with
    | nil =>
      rw [textL_nil, List.nil_append, if_pos (by rcases hs with rfl | ⟨q, rfl⟩; exact .inl rfl; exact .inr rfl)]
    | cons x l =>
      have hh : ¬ (textL (x :: l) ++ rest = [] ∨ (textL (x :: l) ++ rest).headD 0 = 41) := by
        obtain ⟨b0, b15, hk⟩ := vl_kind hv
        obtain ⟨T, hT⟩ : ∃ T, textL (x :: l) ++ rest = cmdT x (textL (l.take (bodyLen x))) ++ T := ⟨_, by rw [textL_cons, List.append_assoc]⟩
        rw [hT]
        obtain ⟨xa, xb, xc⟩ := x
        dsimp only at b0 b15 hk
        have hc : ∀ c U, ∃ b q, decT xb ++ (c :: U) = b :: q ∧ digB b = true := fun c U => decT_head ⟨b0, b15⟩ _
        have fin : ∀ (L : List UInt8) (b : UInt8) (q : List UInt8), L = b :: q → b ≠ 41 → ¬ (L = [] ∨ L.headD 0 = 41) := by
          rintro L b q rfl hb (e | e)
          · cases e
          · exact hb e
        unfold cmdT
        dsimp only
        split
        · exact fin _ _ _ rfl (by decide)
        split
        · exact fin _ _ _ rfl (by decide)
        split
        · rw [List.append_assoc, List.cons_append]
          obtain ⟨b, q, e, hd⟩ := hc 61 (decT xc ++ T)
          exact fin _ _ _ e (dig_ne hd rfl)
        split
        · rw [List.append_assoc, List.cons_append]
          obtain ⟨b, q, e, hd⟩ := hc 42 (40 :: (textL (l.take (bodyLen ⟨xa, xb, xc⟩)) ++ [41]) ++ T)
          exact fin _ _ _ e (dig_ne hd rfl)
        · rw [List.append_assoc, List.cons_append]
          obtain ⟨b, q, e, hd⟩ := hc 63 (40 :: (textL (l.take (bodyLen ⟨xa, xb, xc⟩)) ++ [41]) ++ T)
          exact fin _ _ _ e (dig_ne hd rfl)
      rw [if_neg hh]
      have := ploop_text d hb l.length x l (Nat.le_refl _) ((textL (x :: l) ++ rest).length + 1) [] rest hv (by simpa using hl) hs (Nat.lt_succ_self _)
      rw [this, List.nil_append]
  intro d
  induction d with
  | zero => exact step 0 (fun _ _ h => absurd h (by omega))
  | succ d ih => exact step (d + 1) (fun m rest _ h1 h2 h3 => ih m rest (by simpa using h1) h2 h3)
/-- If a valid program has the text, then the text is parsed to it. -/
theorem readOk_prs {S : List UInt8} {l : List R3} (h : readOkL S l = true) : prsS 8 S = some (l, []) := by
  unfold readOkL validL at h
  simp only [Bool.and_eq_true, decide_eq_true_eq] at h
  have := prs_text 7 l [] h.1.2 h.1.1 (.inl rfl)
  rw [List.append_nil, h.2] at this
  exact this
theorem prs_no {S : List UInt8} (h : ∀ l, prsS 8 S = some (l, []) → readOkL S l = false) : ∀ l, readOkL S l = false := by
  intro l
  cases hl : readOkL S l with
  | false => rfl
  | true => rw [h l (readOk_prs hl)] at hl; cases hl
end Go.Proofs.YtgcedfpjgdeakaaDoor

/- Contracts of the laws' helpers on []Lam: copy, compare, size, mark, look at the marks. For slices of at most 1048576 elements. -/
namespace Go.Proofs.YtgcedfpjgdeakaaDoor
open Go.RowKit
set_option linter.all false

end Go.Proofs.YtgcedfpjgdeakaaDoor

/- Objects that a call made: what hangs on the blocks of an interval alone; rows whose cells are rows. Plain lemmas, no conditions. -/
namespace Go.Proofs.YtgcedfpjgdeakaaDoor
open Go.RowKit
set_option linter.all false

/-- Of the blocks that were there only those from lo up to hi may have turned. -/
structure Touch (lo hi : Nat) (w w' : World) : Prop where
  os : w'.os = w.os
  tape : w'.tape = w.tape
  output : w'.output = w.output
  size : w.heap.size ≤ w'.heap.size
  block : ∀ k, k < w.heap.size → (k < lo ∨ hi ≤ k) → w'.heap[k]? = w.heap[k]?
theorem Touch.refl (lo hi : Nat) (w : World) : Touch lo hi w w := ⟨rfl, rfl, rfl, Nat.le_refl _, fun _ _ _ => rfl⟩
theorem Touch.trans {lo hi : Nat} {a b c : World} (h : Touch lo hi a b) (k : Touch lo hi b c) : Touch lo hi a c :=
  ⟨k.os.trans h.os, k.tape.trans h.tape, k.output.trans h.output, Nat.le_trans h.size k.size, fun i hi hn => (k.block i (Nat.lt_of_lt_of_le hi h.size) hn).trans (h.block i hi hn)⟩
theorem Touch.of_grown {lo hi : Nat} {w w' : World} {row : Option Nat} (h : w.grownBy w' row) (hr : ∀ k, row = some k → lo ≤ k ∧ k < hi) : Touch lo hi w w' :=
  ⟨h.os, h.tape, h.output, h.size, fun k hk hn => h.block k hk fun e => by have := hr k e.symm; omega⟩
theorem Touch.of_below {lo hi : Nat} {w w' : World} (h : Below w.heap.size w w') : Touch lo hi w w' := ⟨h.os, h.tape, h.output, h.size, fun k hk _ => h.block k hk⟩
theorem Touch.below {lo hi : Nat} {w w' : World} (h : Touch lo hi w w') (hl : lo ≤ w.heap.size) : Below lo w w' := ⟨h.os, h.tape, h.output, h.size, fun k hk => h.block k (by omega) (.inl hk)⟩
theorem Touch.mono {lo hi lo' hi' : Nat} {w w' : World} (h : Touch lo hi w w') (h1 : lo' ≤ lo) (h2 : hi ≤ hi') : Touch lo' hi' w w' := ⟨h.os, h.tape, h.output, h.size, fun k hk hn => h.block k hk (by omega)⟩
theorem Touch.setCell {lo hi : Nat} {a w : World} (h : Touch lo hi a w) {p : Addr} (hp : lo ≤ p.block ∧ p.block < hi) (u : Value) : Touch lo hi a (w.setCell p u) :=
  h.trans ⟨rfl, rfl, rfl, by simp [World.setCell], fun k hk hn => Below.heap_setCell _ _ _ _ (by omega)⟩
theorem below_touch {w0 w w' : World} {lo hi : Nat} (h : Below w0.heap.size w0 w) (ht : Touch lo hi w w') (hl : w0.heap.size ≤ lo) : Below w0.heap.size w0 w' :=
  h.trans ⟨ht.os, ht.tape, ht.output, ht.size, fun k hk => ht.block k (Nat.lt_of_lt_of_le hk h.size) (.inl (by omega))⟩

/-- P hangs on the blocks from lo up to hi alone. -/
def Dep (lo hi : Nat) (P : World → Prop) : Prop := ∀ w w' : World, P w → (∀ k, lo ≤ k → k < hi → w'.heap[k]? = w.heap[k]?) → P w'
/-- An object whose blocks lie in an interval. -/
structure Held (lo hi : Nat) (P : World → Prop) (w : World) : Prop where
  le : hi ≤ w.heap.size
  is : P w
  dep : Dep lo hi P
section
variable {lo hi : Nat} {P Q : World → Prop} {w w' : World}
theorem Held.below (h : Held lo hi P w) (hb : Below w.heap.size w w') : Held lo hi P w' :=
  ⟨Nat.le_trans h.le hb.size, h.dep _ _ h.is fun k _ hk => hb.block k (Nat.lt_of_lt_of_le hk h.le), h.dep⟩
theorem Held.far {a b : Nat} (h : Held lo hi P w) (ht : Touch a b w w') (hd : hi ≤ a ∨ b ≤ lo) : Held lo hi P w' :=
  ⟨Nat.le_trans h.le ht.size, h.dep _ _ h.is fun k h1 h2 => ht.block k (Nat.lt_of_lt_of_le h2 h.le) (by omega), h.dep⟩
theorem Held.wide {lo' hi' : Nat} (h : Held lo hi P w) (h1 : lo' ≤ lo) (h2 : hi ≤ hi') (h3 : hi' ≤ w.heap.size) : Held lo' hi' P w :=
  ⟨h3, h.is, fun a b ha hk => h.dep a b ha fun k k1 k2 => hk k (by omega) (by omega)⟩
end
theorem own_dep {w : World} {lo hi : Nat} {e : TypeId} {size n : Nat} {v : Value} {xs : List Value} (hv : ∀ k, v.ownBlock = some k → lo ≤ k ∧ k < hi) : Dep lo hi (fun W => W.ownsRow lo e size v n xs) := by
  intro a b h hk
  refine ⟨h.1, ?_⟩
  rcases h.2 with h0 | ⟨g, cap, cur, rfl, hb, hg, r⟩
  · exact .inl h0
  · have := hv g rfl
    exact .inr ⟨g, cap, cur, rfl, hb, (hk g this.1 this.2).trans hg, r⟩
theorem own_held {w : World} {lo : Nat} {e : TypeId} {size n : Nat} {v : Value} {xs : List Value} (h : w.ownsRow lo e size v n xs) : Held lo w.heap.size (fun W => W.ownsRow lo e size v n xs) w :=
  ⟨Nat.le_refl _, h, own_dep (w := w) h.lt⟩
theorem own_blocks {lo hi : Nat} {w0 w : World} {e : TypeId} {size n : Nat} {v : Value} {xs : List Value} (h : w0.ownsRow lo e size v n xs) (hw : w0.heap.size ≤ hi) : ∀ k, v.ownBlock = some k → lo ≤ k ∧ k < hi := fun k hk => by have := h.lt k hk; omega

theorem own_addr0 {w : World} {base : Nat} {e : TypeId} {size n cap : Nat} {A : Option Addr} {xs : List Value} (h : w.ownsRow base e size (.slice A n cap) n xs) (hn : 0 < n) : ∃ g, A = some ⟨g, 0, none⟩ ∧ base ≤ g ∧ g < w.heap.size := by
  rcases h.2 with ⟨_, h0⟩ | ⟨g, cap', cur, hv, hb, hg, _⟩
  · omega
  · injection hv with h1 h2 h3
    exact ⟨g, h1, hb, heap_lt hg⟩

/-- Rows in the cells of a row: each owned, no two in one block. -/
structure Inn (s : Nat) (e : TypeId) (lo hi : Nat) (vs : List Value) (its : List (Nat × List Value)) (w : World) : Prop where
  len : vs.length = its.length
  own : ∀ (j : Nat) (v : Value) (it : Nat × List Value), vs[j]? = some v → its[j]? = some it → w.ownsRow lo e s v it.1 it.2
  top : ∀ (j : Nat) (v : Value) (k : Nat), vs[j]? = some v → v.ownBlock = some k → k < hi
  apart : ∀ (i j : Nat) (v u : Value), i < j → vs[i]? = some v → vs[j]? = some u → v.ownBlock = none ∨ v.ownBlock ≠ u.ownBlock
section
variable {s lo hi : Nat} {e : TypeId} {vs : List Value} {its : List (Nat × List Value)} {w w' : World}
theorem Inn.nil (s lo hi : Nat) (e : TypeId) (w : World) : Inn s e lo hi [] [] w := ⟨rfl, by simp, by simp, by simp⟩
theorem Inn.get (h : Inn s e lo hi vs its w) {j : Nat} (hj : j < its.length) : ∃ v it, vs[j]? = some v ∧ its[j]? = some it ∧ w.ownsRow lo e s v it.1 it.2 := by
  have h1 : vs[j]? = some (vs[j]'(by rw [h.len]; exact hj)) := List.getElem?_eq_getElem _
  have h2 : its[j]? = some its[j] := List.getElem?_eq_getElem _
  exact ⟨_, _, h1, h2, h.own _ _ _ h1 h2⟩
theorem Inn.dep (lo hi : Nat) (s : Nat) (e : TypeId) (vs : List Value) (its : List (Nat × List Value)) : Dep lo hi (Inn s e lo hi vs its) := by
  intro a b h hk
  refine ⟨h.len, fun j v it h1 h2 => ?_, h.top, h.apart⟩
  have ho := h.own j v it h1 h2
  exact own_dep (w := a) (fun k hk2 => ⟨(ho.lt k hk2).1, h.top j v k h1 hk2⟩) a b ho hk
theorem Inn.below (h : Inn s e lo hi vs its w) (hb : Below w.heap.size w w') : Inn s e lo hi vs its w' :=
  ⟨h.len, fun j v it h1 h2 => own_below' (h.own j v it h1 h2) hb, h.top, h.apart⟩
theorem Inn.wide {hi' : Nat} (h : Inn s e lo hi vs its w) (h2 : hi ≤ hi') : Inn s e lo hi' vs its w :=
  ⟨h.len, h.own, fun j v k h1 h3 => Nat.lt_of_lt_of_le (h.top j v k h1 h3) h2, h.apart⟩
end
theorem snoc_at {α : Type} {xs : List α} {x y : α} {j : Nat} (h : (xs ++ [x])[j]? = some y) : (j < xs.length ∧ xs[j]? = some y) ∨ (j = xs.length ∧ y = x) := by
  rcases Nat.lt_or_ge j xs.length with hj | hj
  · rw [List.getElem?_append_left hj] at h
    exact .inl ⟨hj, h⟩
  · rw [List.getElem?_append_right hj, List.getElem?_singleton] at h
    split at h
    · injection h with h
      exact .inr ⟨by omega, h.symm⟩
    · cases h
theorem set_at {α : Type} {xs : List α} {x y : α} {i j : Nat} (h : (xs.set i x)[j]? = some y) : (j = i ∧ y = x) ∨ (j ≠ i ∧ xs[j]? = some y) := by
  rw [List.getElem?_set] at h
  split at h
  · split at h
    · injection h with h; exact .inl ⟨by omega, h.symm⟩
    · cases h
  · exact .inr ⟨by omega, h⟩
section
variable {s lo hi : Nat} {e : TypeId} {vs : List Value} {its : List (Nat × List Value)} {w w' : World}
/-- One row more, made behind all the others. -/
theorem Inn.snoc {v : Value} {it : Nat × List Value} {b hi' : Nat} (h : Inn s e lo hi vs its w) (hv : w.ownsRow b e s v it.1 it.2) (hb : hi ≤ b) (hlo : lo ≤ b) (hw : w.heap.size ≤ hi') (hh : hi ≤ hi') : Inn s e lo hi' (vs ++ [v]) (its ++ [it]) w := by
  have hbs := hv.lt
  refine ⟨by simp [h.len], fun j u i2 h1 h2 => ?_, fun j u k h1 h2 => ?_, fun i j u1 u2 hij h1 h2 => ?_⟩
  · rcases snoc_at h1 with ⟨hj, h1⟩ | ⟨hj, rfl⟩
    · rcases snoc_at h2 with ⟨_, h2⟩ | ⟨hj2, _⟩
      · exact h.own j u i2 h1 h2
      · have := h.len; omega
    · rcases snoc_at h2 with ⟨hj2, _⟩ | ⟨_, rfl⟩
      · have := h.len; omega
      · exact own_base hv hlo
  · rcases snoc_at h1 with ⟨hj, h1⟩ | ⟨hj, rfl⟩
    · have := h.top j u k h1 h2; omega
    · have := hbs k h2; omega
  · rcases snoc_at h1 with ⟨hi1, h1'⟩ | ⟨hi1, _⟩
    · rcases snoc_at h2 with ⟨_, h2'⟩ | ⟨_, e5⟩
      · exact h.apart i j u1 u2 hij h1' h2'
      · subst e5
        cases hk : u1.ownBlock with
        | none => exact .inl rfl
        | some k =>
          refine .inr fun e2 => ?_
          have := hbs k e2.symm
          have := h.top i u1 k h1' hk
          omega
    · rcases snoc_at h2 with ⟨hj, _⟩ | ⟨hj, _⟩ <;> omega
/-- One row turns. -/
theorem Inn.turn {j : Nat} {v : Value} {it : Nat × List Value} (h : Inn s e lo hi vs its w) (hv : vs[j]? = some v) (hg : w.grownBy w' v.ownBlock) (hn : w'.ownsRow lo e s v it.1 it.2) : Inn s e lo hi vs (its.set j it) w' := by
  refine ⟨by rw [List.length_set]; exact h.len, fun i u i2 h1 h2 => ?_, h.top, h.apart⟩
  rcases set_at h2 with ⟨rfl, rfl⟩ | ⟨hne, h2⟩
  · rw [hv] at h1; injection h1 with h1; subst h1; exact hn
  · refine (h.own i u i2 h1 h2).kept hg ?_
    rcases Nat.lt_or_ge i j with hij | hij
    · exact h.apart i j u v hij h1 hv
    · cases hu : u.ownBlock with
      | none => exact .inl rfl
      | some k =>
        refine .inr fun e2 => ?_
        rcases h.apart j i v u (by omega) hv h1 with h3 | h3
        · rw [h3] at e2; cases e2
        · exact h3 (by rw [hu]; exact e2.symm)
theorem Inn.touch (h : Inn s e lo hi vs its w) {j : Nat} {v : Value} (hv : vs[j]? = some v) (hg : w.grownBy w' v.ownBlock) : Touch lo hi w w' := by
  refine Touch.of_grown hg fun k hk => ?_
  have hj : j < its.length := by rw [← h.len]; exact (List.getElem?_eq_some_iff.1 hv).1
  have ho := h.own j v _ hv (List.getElem?_eq_getElem hj)
  exact ⟨(ho.lt k hk).1, h.top j v k hv hk⟩
end
theorem own_apart_ty {w : World} {b1 b2 : Nat} {e1 e2 : TypeId} {s1 s2 n1 n2 : Nat} {v1 v2 : Value} {x1 x2 : List Value} (h1 : w.ownsRow b1 e1 s1 v1 n1 x1) (h2 : w.ownsRow b2 e2 s2 v2 n2 x2) (hne : e1 ≠ e2) : v1.ownBlock = none ∨ v1.ownBlock ≠ v2.ownBlock := by
  rcases h1.2 with ⟨rfl, _⟩ | ⟨g, cap, cur, rfl, _, hg, _⟩
  · exact .inl rfl
  · refine .inr fun e => ?_
    exact own_ne_block h2 hg (fun h => hne h.symm) e

theorem Inn.kept {s lo hi : Nat} {e t : TypeId} {vs : List Value} {its : List (Nat × List Value)} {w w' : World} {b s0 n : Nat} {V : Value} {cs : List Value} (h : Inn s e lo hi vs its w) (ho : w.ownsRow b t s0 V n cs) (hg : w.grownBy w' V.ownBlock) (hne : e ≠ t) : Inn s e lo hi vs its w' :=
  ⟨h.len, fun j v it h1 h2 => (h.own j v it h1 h2).kept hg (own_apart_ty (h.own j v it h1 h2) ho hne), h.top, h.apart⟩

/-- The marks of rows that follow each other. -/
def mks (F : Int → Value) (s : Nat) : Int → List (Nat × List Value) → List (Nat × List Value)
  | _, [] => []
  | k, it :: l => (it.1, marks F k (it.1 * s)) :: mks F s (k + (it.1 * s : Nat)) l
/-- How many cells rows have. -/
def cellsIn (s : Nat) (its : List (Nat × List Value)) : Nat := (its.map fun it => it.1 * s).sum
theorem cellsIn_snoc (s : Nat) (its : List (Nat × List Value)) (it : Nat × List Value) : cellsIn s (its ++ [it]) = cellsIn s its + it.1 * s := by simp [cellsIn]
theorem cellsIn_take {s : Nat} {its : List (Nat × List Value)} {k : Nat} {it : Nat × List Value} (h : its[k]? = some it) : cellsIn s (its.take (k + 1)) = cellsIn s (its.take k) + it.1 * s := by
  rw [List.take_add_one, h]; exact cellsIn_snoc s _ it
theorem cellsIn_le (s : Nat) (its : List (Nat × List Value)) (k : Nat) : cellsIn s (its.take k) ≤ cellsIn s its := by
  have h : ∀ a b : List (Nat × List Value), cellsIn s a ≤ cellsIn s (a ++ b) := by intro a b; simp [cellsIn]
  have := h (its.take k) (its.drop k)
  rwa [List.take_append_drop] at this
theorem length_mks (F : Int → Value) (s : Nat) (its : List (Nat × List Value)) : ∀ k, (mks F s k its).length = its.length := by
  induction its with
  | nil => intro k; rfl
  | cons it l ih => intro k; simp [mks, ih]
theorem mks_snoc (F : Int → Value) (s : Nat) (it : Nat × List Value) (its : List (Nat × List Value)) : ∀ k : Int, mks F s k (its ++ [it]) = mks F s k its ++ [(it.1, marks F (k + (cellsIn s its : Nat)) (it.1 * s))] := by
  induction its with
  | nil => intro k; simp [mks, cellsIn]
  | cons i l ih =>
    intro k
    simp only [List.cons_append, mks, ih]
    congr 5
    simp only [cellsIn, List.map_cons, List.sum_cons]
    omega
theorem mks_at (F : Int → Value) (s : Nat) {its : List (Nat × List Value)} {j : Nat} {it : Nat × List Value} (h : its[j]? = some it) (k : Int) : (mks F s k its)[j]? = some (it.1, marks F (k + (cellsIn s (its.take j) : Nat)) (it.1 * s)) := by
  obtain ⟨hj, hx⟩ := List.getElem?_eq_some_iff.1 h
  have e : its = its.take j ++ it :: its.drop (j + 1) := by
    conv => lhs; rw [← List.take_append_drop j its, List.drop_eq_getElem_cons hj, hx]
  have e2 : ∀ (a b : List (Nat × List Value)) (k : Int), mks F s k (a ++ b) = mks F s k a ++ mks F s (k + (cellsIn s a : Nat)) b := by
    intro a
    induction a with
    | nil => intro b k; simp [mks, cellsIn]
    | cons i l ih =>
      intro b k
      simp only [List.cons_append, mks, ih]
      congr 3
      simp only [cellsIn, List.map_cons, List.sum_cons]
      omega
  conv => lhs; rw [e, e2]
  rw [List.getElem?_append_right (by rw [length_mks, List.length_take]; omega), length_mks, List.length_take, Nat.min_eq_left (by omega), Nat.sub_self]
  rfl
/-- A round of marking. -/
theorem Inn.mark {F : Int → Value} {k0 : Int} {s lo hi k : Nat} {e : TypeId} {vs : List Value} {its : List (Nat × List Value)} {w w' : World} {v : Value} {it : Nat × List Value} (h : Inn s e lo hi vs (mks F s k0 (its.take k) ++ its.drop k) w) (hv : vs[k]? = some v) (hit : its[k]? = some it)
    (hg : w.grownBy w' v.ownBlock) (hn : w'.ownsRow lo e s v it.1 (marks F (k0 + (cellsIn s (its.take k) : Nat)) (it.1 * s))) : Inn s e lo hi vs (mks F s k0 (its.take (k + 1)) ++ its.drop (k + 1)) w' := by
  have h2 := h.turn (it := (it.1, marks F (k0 + (cellsIn s (its.take k) : Nat)) (it.1 * s))) hv hg hn
  obtain ⟨hj, hx⟩ := List.getElem?_eq_some_iff.1 hit
  have e : (mks F s k0 (its.take k) ++ its.drop k).set k (it.1, marks F (k0 + (cellsIn s (its.take k) : Nat)) (it.1 * s)) = mks F s k0 (its.take (k + 1)) ++ its.drop (k + 1) := by
    have hl : (mks F s k0 (its.take k)).length = k := by rw [length_mks, List.length_take]; omega
    rw [List.set_append_right _ _ (by omega), hl, Nat.sub_self, List.drop_eq_getElem_cons hj, List.set_cons_zero, List.take_add_one, hit]
    show _ = mks F s k0 (its.take k ++ [it]) ++ _
    rw [mks_snoc]
    simp
  rw [e] at h2
  exact h2
theorem inn_row {F : Int → Value} {k0 : Int} {s lo hi k : Nat} {e : TypeId} {vs : List Value} {its : List (Nat × List Value)} {w : World} {v : Value} {it : Nat × List Value} (h : Inn s e lo hi vs (mks F s k0 (its.take k) ++ its.drop k) w) (hv : vs[k]? = some v) (hit : its[k]? = some it) : w.ownsRow lo e s v it.1 it.2 := by
  obtain ⟨hj, hx⟩ := List.getElem?_eq_some_iff.1 hit
  refine h.own k v it hv ?_
  have hl : (mks F s k0 (its.take k)).length = k := by rw [length_mks, List.length_take]; omega
  rw [List.getElem?_append_right (by omega), hl, Nat.sub_self, List.getElem?_drop]
  simpa using hit

/-- A row whose cells hold rows: the outer row (n elements of s0 cells, read as cs), the inner ones (elements of s cells); all blocks from base up to hi. -/
structure Grid (base hi : Nat) (t : TypeId) (s0 : Nat) (V : Value) (n : Nat) (cs : List Value) (e : TypeId) (s : Nat) (us : List Value) (its : List (Nat × List Value)) (W : World) : Prop where
  own : W.ownsRow base t s0 V n cs
  inn : Inn s e base hi us its W
  top : ∀ k, V.ownBlock = some k → k < hi
section
variable {base hi : Nat} {t : TypeId} {s0 : Nat} {V : Value} {n : Nat} {cs : List Value} {e : TypeId} {s : Nat} {us : List Value} {its : List (Nat × List Value)} {w w' : World}
theorem Grid.dep (base hi : Nat) (t : TypeId) (s0 : Nat) (V : Value) (n : Nat) (cs : List Value) (e : TypeId) (s : Nat) (us : List Value) (its : List (Nat × List Value)) : Dep base hi (Grid base hi t s0 V n cs e s us its) := by
  intro a b h hk
  exact ⟨own_dep (w := a) (fun k h2 => ⟨(h.own.lt k h2).1, h.top k h2⟩) a b h.own hk, Inn.dep base hi s e us its a b h.inn hk, h.top⟩
theorem Grid.held (h : Grid base hi t s0 V n cs e s us its w) (hh : hi ≤ w.heap.size) : Held base hi (Grid base hi t s0 V n cs e s us its) w := ⟨hh, h, Grid.dep _ _ _ _ _ _ _ _ _ _ _⟩
theorem Grid.below (h : Grid base hi t s0 V n cs e s us its w) (hb : Below w.heap.size w w') : Grid base hi t s0 V n cs e s us its w' := ⟨own_below' h.own hb, h.inn.below hb, h.top⟩
end
theorem fill_set {us : List Value} {n k : Nat} {z v : Value} (hl : us.length = k) (hk : k < n) : (us ++ List.replicate (n - k) z).set k v = (us ++ [v]) ++ List.replicate (n - (k + 1)) z := by
  subst hl
  rw [List.set_append_right _ _ (Nat.le_refl _), Nat.sub_self, show n - us.length = (n - (us.length + 1)) + 1 by omega, List.replicate_succ, List.set_cons_zero]
  simp

/-- Slices in the cells of another slice that came in. -/
def Ins {α : Type} (s : Nat) (f : α → List Value) (w : World) (vs : List Value) (ts : List (List α)) : Prop :=
  vs.length = ts.length ∧ ∀ (j : Nat) (v : Value) (t : List α), vs[j]? = some v → ts[j]? = some t → ∃ A c, v = .slice A t.length c ∧ Args s w A t.length (rows f t)
theorem Ins.below {α : Type} {s : Nat} {f : α → List Value} {w w' : World} {vs : List Value} {ts : List (List α)} (h : Ins s f w vs ts) (hb : Below w.heap.size w w') : Ins s f w' vs ts :=
  ⟨h.1, fun j v t h1 h2 => by obtain ⟨A, c, e, ha⟩ := h.2 j v t h1 h2; exact ⟨A, c, e, ha.below hb⟩⟩
theorem Ins.get {α : Type} {s : Nat} {f : α → List Value} {w : World} {vs : List Value} {ts : List (List α)} (h : Ins s f w vs ts) {j : Nat} {t : List α} (ht : ts[j]? = some t) : ∃ A c, vs[j]? = some (.slice A t.length c) ∧ Args s w A t.length (rows f t) := by
  have hj := (List.getElem?_eq_some_iff.1 ht).1
  have h1 : vs[j]? = some (vs[j]'(by rw [h.1]; exact hj)) := List.getElem?_eq_getElem _
  obtain ⟨A, c, e, ha⟩ := h.2 j _ t h1 ht
  exact ⟨A, c, by rw [h1, e], ha⟩
/-- The rows of lists. -/
def itsOf {α : Type} (f : α → List Value) (ts : List (List α)) : List (Nat × List Value) := ts.map fun t => (t.length, rows f t)
theorem itsOf_take {α : Type} (f : α → List Value) (ts : List (List α)) (k : Nat) : (itsOf f ts).take k = itsOf f (ts.take k) := by simp [itsOf, List.map_take]
theorem itsOf_at {α : Type} (f : α → List Value) {ts : List (List α)} {k : Nat} {t : List α} (h : ts[k]? = some t) : (itsOf f ts)[k]? = some (t.length, rows f t) := by simp [itsOf, h]
theorem itsOf_snoc {α : Type} (f : α → List Value) {ts : List (List α)} {k : Nat} {t : List α} (h : ts[k]? = some t) : (itsOf f ts).take (k + 1) = (itsOf f ts).take k ++ [(t.length, rows f t)] := by
  rw [List.take_add_one, itsOf_at f h]; rfl
theorem Inn.ins {α : Type} {s lo hi : Nat} {f : α → List Value} {e : TypeId} {us : List Value} {ts : List (List α)} {w : World} (h : Inn s e lo hi us (itsOf f ts) w) : Ins s f w us ts := by
  refine ⟨by rw [h.len]; simp [itsOf], fun j v t h1 h2 => ?_⟩
  have ho := h.own j v _ h1 (itsOf_at f h2)
  obtain ⟨A, c, rfl⟩ := own_form ho
  exact ⟨A, c, rfl, args_of_own ho⟩
/-- How many elements lists have. -/
def sumLen {α : Type} (ts : List (List α)) : Nat := (ts.map List.length).sum
theorem sumLen_take {α : Type} {ts : List (List α)} {k : Nat} {t : List α} (h : ts[k]? = some t) : sumLen (ts.take (k + 1)) = sumLen (ts.take k) + t.length := by
  rw [List.take_add_one, h]; simp [sumLen]
theorem sumLen_le {α : Type} (ts : List (List α)) (k : Nat) : sumLen (ts.take k) ≤ sumLen ts := by
  have h : ∀ a b : List (List α), sumLen a ≤ sumLen (a ++ b) := by intro a b; simp [sumLen]
  have := h (ts.take k) (ts.drop k)
  rwa [List.take_append_drop] at this
theorem sumLen_at {α : Type} {ts : List (List α)} {k : Nat} {t : List α} (h : ts[k]? = some t) : t.length ≤ sumLen ts := by
  have := sumLen_take h
  have := sumLen_le ts (k + 1)
  omega
theorem sumLen_mem {α : Type} {ts : List (List α)} {t : List α} (h : t ∈ ts) : t.length ≤ sumLen ts := by
  obtain ⟨j, hj⟩ := List.getElem?_of_mem h
  exact sumLen_at hj
theorem cellsIn_its {α : Type} (f : α → List Value) (s : Nat) (ts : List (List α)) : cellsIn s (itsOf f ts) = sumLen ts * s := by
  unfold cellsIn itsOf sumLen
  induction ts with
  | nil => simp
  | cons t l ih => simp only [List.map_cons, List.sum_cons, Nat.add_mul]; rw [← ih]
theorem arg_args {w : World} {A : Option Addr} {n : Nat} {xs : List Value} (h : Args 1 w A n xs) : Arg w A n xs := ⟨by have := h.1; omega, h.2⟩
theorem args_arg {w : World} {A : Option Addr} {n : Nat} {xs : List Value} (h : Arg w A n xs) : Args 1 w A n xs := ⟨by have := h.1; omega, h.2⟩
def oneI (x : Int) : List Value := [.int .i64 x]
def oneB (x : Bool) : List Value := [.bool x]
theorem rows_oneI (xs : List Int) : rows oneI xs = xs.map (Value.int .i64) := by unfold rows oneI; induction xs <;> simp_all
theorem rows_oneB (xs : List Bool) : rows oneB xs = xs.map Value.bool := by unfold rows oneB; induction xs <;> simp_all
/-- A row, its block below hi. -/
structure Flat (lo hi : Nat) (e : TypeId) (s : Nat) (V : Value) (n : Nat) (xs : List Value) (W : World) : Prop where
  own : W.ownsRow lo e s V n xs
  top : ∀ k, V.ownBlock = some k → k < hi
section
variable {lo hi : Nat} {e : TypeId} {s : Nat} {V : Value} {n : Nat} {xs ys : List Value} {w w' : World}
theorem Flat.dep (lo hi : Nat) (e : TypeId) (s : Nat) (V : Value) (n : Nat) (xs : List Value) : Dep lo hi (Flat lo hi e s V n xs) := by
  intro a b h hk
  exact ⟨own_dep (w := a) (fun k h2 => ⟨(h.own.lt k h2).1, h.top k h2⟩) a b h.own hk, h.top⟩
theorem flat_of_own (h : w.ownsRow lo e s V n xs) : Held lo w.heap.size (Flat lo w.heap.size e s V n xs) w := ⟨Nat.le_refl _, ⟨h, fun k hk => (h.lt k hk).2⟩, Flat.dep _ _ _ _ _ _ _⟩
theorem Flat.turn (h : Held lo hi (Flat lo hi e s V n xs) w) (hn : w'.ownsRow lo e s V n ys) (hg : w.grownBy w' V.ownBlock) : Held lo hi (Flat lo hi e s V n ys) w' ∧ Touch lo hi w w' :=
  ⟨⟨Nat.le_trans h.le hg.size, ⟨hn, h.is.top⟩, Flat.dep _ _ _ _ _ _ _⟩, Touch.of_grown hg fun k hk => ⟨(h.is.own.lt k hk).1, h.is.top k hk⟩⟩
end
theorem Grid.turn {base hi : Nat} {t : TypeId} {s0 : Nat} {V : Value} {n : Nat} {cs cs' : List Value} {e : TypeId} {s : Nat} {us : List Value} {its its' : List (Nat × List Value)} {w w' : World} (h : Held base hi (Grid base hi t s0 V n cs e s us its) w) (hn : Grid base hi t s0 V n cs' e s us its' w') (ht : Touch base hi w w') : Held base hi (Grid base hi t s0 V n cs' e s us its') w' :=
  ⟨Nat.le_trans h.le ht.size, hn, Grid.dep _ _ _ _ _ _ _ _ _ _ _⟩
/-- Slices in the cells of a row, each nil or with cells that are there. -/
def Srcs {α : Type} (s : Nat) (f : α → List Value) (w : World) (vs : List Value) (ts : List (List α)) : Prop :=
  vs.length = ts.length ∧ ∀ (j : Nat) (v : Value) (t : List α), vs[j]? = some v → ts[j]? = some t → Src s w v t.length (rows f t)
theorem Srcs.below {α : Type} {s : Nat} {f : α → List Value} {w w' : World} {vs : List Value} {ts : List (List α)} (h : Srcs s f w vs ts) (hb : Below w.heap.size w w') : Srcs s f w' vs ts :=
  ⟨h.1, fun j v t h1 h2 => (h.2 j v t h1 h2).below hb⟩
theorem Inn.srcs {α : Type} {s lo hi : Nat} {f : α → List Value} {e : TypeId} {us : List Value} {ts : List (List α)} {w : World} (h : Inn s e lo hi us (itsOf f ts) w) : Srcs s f w us ts :=
  ⟨by rw [h.len]; simp [itsOf], fun j v t h1 h2 => Src.of_own (h.own j v _ h1 (itsOf_at f h2))⟩
theorem its_bound {α : Type} {f : α → List Value} {ts : List (List α)} {m : Nat} (h : sumLen ts ≤ m) : ∀ it ∈ itsOf f ts, it.1 ≤ m := by
  intro it hit
  unfold itsOf at hit
  obtain ⟨t, ht, rfl⟩ := List.mem_map.1 hit
  exact Nat.le_trans (sumLen_mem ht) h
/-- What is left behind n elements, or -1. -/
def SzOut (n : Nat) (left z : Int) : Prop := ((n : Int) ≤ left ∧ z = left - n) ∨ (left < (n : Int) ∧ z = -1)
theorem szOut_no {n : Nat} {left : Int} (h : left < (n : Int)) : SzOut n left (-1) := .inr ⟨h, rfl⟩
theorem szOut_yes {n : Nat} {left z : Int} (h : (n : Int) ≤ left) (hz : z = left - n) : SzOut n left z := .inl ⟨h, hz⟩
end Go.Proofs.YtgcedfpjgdeakaaDoor

/- Rows of records that hold slices of the call's own: plain lemmas on worlds, for whatever record. -/
namespace Go.Proofs.YtgcedfpjgdeakaaDoor
open Go.RowKit
set_option linter.all false

section
variable {α β : Type}
theorem flat_len (f : α → List β) {s : Nat} (hs : ∀ x, (f x).length = s) (xs : List α) : (xs.flatMap f).length = xs.length * s := by
  induction xs with
  | nil => simp
  | cons x l ih => rw [List.flatMap_cons, List.length_append, ih, hs, List.length_cons, Nat.succ_mul, Nat.add_comm]
theorem flat_at (f : α → List β) {s : Nat} (hs : ∀ x, (f x).length = s) {xs : List α} {k : Nat} {x : α} (h : xs[k]? = some x) {j : Nat} (hj : j < s) : (xs.flatMap f)[k * s + j]? = (f x)[j]? := by
  obtain ⟨hk, hx⟩ := List.getElem?_eq_some_iff.1 h
  have e : xs = xs.take k ++ (x :: xs.drop (k + 1)) := by
    conv => lhs; rw [← List.take_append_drop k xs, List.drop_eq_getElem_cons hk, hx]
  have l1 : ((xs.take k).flatMap f).length = k * s := by rw [flat_len f hs, List.length_take, Nat.min_eq_left (by omega)]
  conv => lhs; rw [e, List.flatMap_append]
  rw [List.getElem?_append_right (by omega), l1, Nat.add_sub_cancel_left, List.flatMap_cons, List.getElem?_append_left (by rw [hs]; exact hj)]
theorem flat_set (f : α → List β) {s : Nat} (hs : ∀ x, (f x).length = s) {xs : List α} {k : Nat} {x : α} (y : α) {j : Nat} {u : β} (hx : xs[k]? = some x) (hj : j < s) (hy : f y = (f x).set j u) : (xs.flatMap f).set (k * s + j) u = (xs.set k y).flatMap f := by
  obtain ⟨hk, hx'⟩ := List.getElem?_eq_some_iff.1 hx
  have e : xs = xs.take k ++ (x :: xs.drop (k + 1)) := by
    conv => lhs; rw [← List.take_append_drop k xs, List.drop_eq_getElem_cons hk, hx']
  have l1 : ((xs.take k).flatMap f).length = k * s := by rw [flat_len f hs, List.length_take, Nat.min_eq_left (by omega)]
  have l2 : (xs.take k).length = k := by rw [List.length_take]; omega
  have e2 : xs.set k y = xs.take k ++ (y :: xs.drop (k + 1)) := by
    conv => lhs; rw [e]
    rw [List.set_append_right _ _ (by omega), l2, Nat.sub_self, List.set_cons_zero]
  rw [e2, List.flatMap_append, List.flatMap_cons, hy]
  conv => lhs; rw [e]
  rw [List.flatMap_append, List.flatMap_cons, List.set_append_right _ _ (by omega), l1, Nat.add_sub_cancel_left, List.set_append_left _ _ (by rw [hs]; exact hj)]
theorem flat_same (f : α → List β) {xs : List α} {k : Nat} {x : α} (y : α) (hx : xs[k]? = some x) (hy : f y = f x) : (xs.set k y).flatMap f = xs.flatMap f := by
  obtain ⟨hk, hx'⟩ := List.getElem?_eq_some_iff.1 hx
  have e : xs = xs.take k ++ (x :: xs.drop (k + 1)) := by
    conv => lhs; rw [← List.take_append_drop k xs, List.drop_eq_getElem_cons hk, hx']
  have l2 : (xs.take k).length = k := by rw [List.length_take]; omega
  have e2 : xs.set k y = xs.take k ++ (y :: xs.drop (k + 1)) := by
    conv => lhs; rw [e]
    rw [List.set_append_right _ _ (by omega), l2, Nat.sub_self, List.set_cons_zero]
  rw [e2]
  conv => rhs; rw [e]
  simp only [List.flatMap_append, List.flatMap_cons, hy]
end

/-- A kind of record: its outer cells, its slices, and what they hold. -/
structure Knd (E : Type) where
  vs : E → List Value
  us : E → List Value
  its : E → List (Nat × List Value)
  s0 : Nat
  ns : Nat
  vs_len : ∀ e, (vs e).length = s0
  us_len : ∀ e, (us e).length = ns
  its_len : ∀ e, (its e).length = ns
/-- A row of records of the call's own. -/
def SGrid {E : Type} (K : Knd E) (base hi : Nat) (T Te : TypeId) (s : Nat) (V : Value) (es : List E) (W : World) : Prop :=
  Grid base hi T K.s0 V es.length (rows K.vs es) Te s (es.flatMap K.us) (es.flatMap K.its) W
section
variable {E : Type} {K : Knd E} {base hi : Nat} {T Te : TypeId} {s : Nat} {V : Value} {es : List E} {W W' : World}
theorem SGrid.dep : Dep base hi (SGrid K base hi T Te s V es) := Grid.dep _ _ _ _ _ _ _ _ _ _ _
theorem SGrid.held (h : SGrid K base hi T Te s V es W) (hh : hi ≤ W.heap.size) : Held base hi (SGrid K base hi T Te s V es) W := ⟨hh, h, SGrid.dep⟩
theorem SGrid.turn {es' : List E} (h : Held base hi (SGrid K base hi T Te s V es) W) (hn : SGrid K base hi T Te s V es' W') (ht : Touch base hi W W') : Held base hi (SGrid K base hi T Te s V es') W' := ⟨Nat.le_trans h.le ht.size, hn, SGrid.dep⟩
theorem SGrid.below (h : SGrid K base hi T Te s V es W) (hb : Below W.heap.size W W') : SGrid K base hi T Te s V es W' := Grid.below h hb
/-- One of the slices of a record. -/
theorem SGrid.row (h : SGrid K base hi T Te s V es W) {k j : Nat} {e : E} (hk : es[k]? = some e) {v : Value} {it : Nat × List Value} (hv : (K.us e)[j]? = some v) (hit : (K.its e)[j]? = some it) : W.ownsRow base Te s v it.1 it.2 := by
  have hj : j < K.ns := by rw [← K.us_len e]; exact (List.getElem?_eq_some_iff.1 hv).1
  exact h.inn.own (k * K.ns + j) v it (by rw [flat_at K.us K.us_len hk hj]; exact hv) (by rw [flat_at K.its K.its_len hk hj]; exact hit)
/-- A store into an outer cell. -/
theorem SGrid.store {g n cap k j : Nat} {e e' : E} {u : Value} (h : SGrid K base hi T Te s (.slice (some ⟨g, 0, none⟩) n cap) es W) (hk : es[k]? = some e) (hj : j < K.s0) (hvs : K.vs e' = (K.vs e).set j u) (hus : K.us e' = K.us e) (hits : K.its e' = K.its e) (hne : Te ≠ T) :
    SGrid K base hi T Te s (.slice (some ⟨g, 0, none⟩) n cap) (es.set k e') (W.setCell ⟨g, k * K.s0 + j, none⟩ u) ∧ Touch base hi W (W.setCell ⟨g, k * K.s0 + j, none⟩ u) := by
  have hl : n = es.length := by
    have := h.own
    obtain ⟨A, c, e1⟩ := own_form this
    injection e1
  subst hl
  have ho := h.own
  obtain ⟨h1, h2⟩ := ho.stored (k * K.s0 + j) u
  refine ⟨⟨?_, ?_, h.top⟩, ?_⟩
  · unfold rows at h1 ⊢
    rw [flat_set K.vs K.vs_len e' hk hj hvs] at h1
    rw [List.length_set]
    exact h1
  · have hin := h.inn.kept ho h2 hne
    rw [flat_same K.us e' hk hus, flat_same K.its e' hk hits]
    exact hin
  · refine Touch.of_grown h2 fun q hq => ?_
    exact ⟨(ho.lt q hq).1, h.top q hq⟩
/-- One of the slices is written over. -/
theorem SGrid.mark {k j : Nat} {e e' : E} {v : Value} {it : Nat × List Value} {ys : List Value} (h : SGrid K base hi T Te s V es W) (hk : es[k]? = some e) (hv : (K.us e)[j]? = some v) (hit : (K.its e)[j]? = some it) (hg : W.grownBy W' v.ownBlock) (hn : W'.ownsRow base Te s v it.1 ys)
    (hvs : K.vs e' = K.vs e) (hus : K.us e' = K.us e) (hits : K.its e' = (K.its e).set j (it.1, ys)) (hne : T ≠ Te) : SGrid K base hi T Te s V (es.set k e') W' ∧ Touch base hi W W' := by
  have hj : j < K.ns := by rw [← K.us_len e]; exact (List.getElem?_eq_some_iff.1 hv).1
  have hv2 : (es.flatMap K.us)[k * K.ns + j]? = some v := by rw [flat_at K.us K.us_len hk hj]; exact hv
  have hrow := h.row hk hv hit
  refine ⟨⟨?_, ?_, h.top⟩, h.inn.touch hv2 hg⟩
  · rw [List.length_set]
    have : rows K.vs (es.set k e') = rows K.vs es := flat_same K.vs e' hk hvs
    rw [this]
    exact h.own.kept hg (own_apart_ty h.own hrow hne)
  · rw [flat_same K.us e' hk hus]
    have := h.inn.turn (it := (it.1, ys)) hv2 hg hn
    rw [flat_set K.its K.its_len e' hk hj hits] at this
    exact this
end

/-- Marks, record by record. -/
def markL {E : Type} (wid : E → Nat) (mk : Int → E → E) : Int → List E → List E
  | _, [] => []
  | k, e :: l => mk k e :: markL wid mk (k + (wid e : Nat)) l
def widSum {E : Type} (wid : E → Nat) (es : List E) : Nat := (es.map wid).sum
section
variable {E : Type} (wid : E → Nat) (mk : Int → E → E)
theorem widSum_take {es : List E} {k : Nat} {e : E} (h : es[k]? = some e) : widSum wid (es.take (k + 1)) = widSum wid (es.take k) + wid e := by
  rw [List.take_add_one, h]; simp [widSum]
theorem widSum_le (es : List E) (k : Nat) : widSum wid (es.take k) ≤ widSum wid es := by
  have h : ∀ a b : List E, widSum wid a ≤ widSum wid (a ++ b) := by intro a b; simp [widSum]
  have := h (es.take k) (es.drop k)
  rwa [List.take_append_drop] at this
theorem widSum_at {es : List E} {k : Nat} {e : E} (h : es[k]? = some e) : wid e ≤ widSum wid es := by
  have := widSum_take wid h
  have := widSum_le wid es (k + 1)
  omega
theorem length_markL (es : List E) : ∀ k, (markL wid mk k es).length = es.length := by
  induction es with
  | nil => intro k; rfl
  | cons e l ih => intro k; simp [markL, ih]
theorem markL_app (a b : List E) : ∀ k : Int, markL wid mk k (a ++ b) = markL wid mk k a ++ markL wid mk (k + (widSum wid a : Nat)) b := by
  induction a with
  | nil => intro k; simp [markL, widSum]
  | cons e l ih =>
    intro k
    simp only [List.cons_append, markL, ih]
    congr 3
    simp only [widSum, List.map_cons, List.sum_cons]
    omega
theorem markL_at {es : List E} {j : Nat} {e : E} (h : es[j]? = some e) (k : Int) : (markL wid mk k es)[j]? = some (mk (k + (widSum wid (es.take j) : Nat)) e) := by
  obtain ⟨hj, hx⟩ := List.getElem?_eq_some_iff.1 h
  have e1 : es = es.take j ++ e :: es.drop (j + 1) := by
    conv => lhs; rw [← List.take_append_drop j es, List.drop_eq_getElem_cons hj, hx]
  conv => lhs; rw [e1, markL_app]
  rw [List.getElem?_append_right (by rw [length_markL, List.length_take]; omega), length_markL, List.length_take, Nat.min_eq_left (by omega), Nat.sub_self]
  rfl
theorem markL_cur {es : List E} {k : Nat} {e : E} (h : es[k]? = some e) (k0 : Int) : (markL wid mk k0 (es.take k) ++ es.drop k)[k]? = some e := by
  obtain ⟨hj, hx⟩ := List.getElem?_eq_some_iff.1 h
  have hl : (markL wid mk k0 (es.take k)).length = k := by rw [length_markL, List.length_take]; omega
  rw [List.getElem?_append_right (by omega), hl, Nat.sub_self, List.getElem?_drop]
  simpa using h
theorem markL_next {es : List E} {k : Nat} {e : E} (h : es[k]? = some e) (k0 : Int) {e' : E} (he : e' = mk (k0 + (widSum wid (es.take k) : Nat)) e) : (markL wid mk k0 (es.take k) ++ es.drop k).set k e' = markL wid mk k0 (es.take (k + 1)) ++ es.drop (k + 1) := by
  subst he
  obtain ⟨hj, hx⟩ := List.getElem?_eq_some_iff.1 h
  have hl : (markL wid mk k0 (es.take k)).length = k := by rw [length_markL, List.length_take]; omega
  rw [List.set_append_right _ _ (by omega), hl, Nat.sub_self, List.drop_eq_getElem_cons hj, List.set_cons_zero, List.take_add_one, h]
  show _ = markL wid mk k0 (es.take k ++ [e]) ++ _
  rw [markL_app]
  simp [markL]
end
theorem set_set' {α : Type} (xs : List α) (k : Nat) (a b : α) : (xs.set k a).set k b = xs.set k b := List.set_set ..
theorem get_set' {α : Type} {xs : List α} {k : Nat} {x : α} (h : xs[k]? = some x) (y : α) : (xs.set k y)[k]? = some y := by
  have := (List.getElem?_eq_some_iff.1 h).1
  rw [List.getElem?_set_self this]

/-- The marks as numbers, and as records of two numbers. -/
def runI (k : Int) (n : Nat) : List Int := (List.range n).map fun j : Nat => k + (j : Int)
def run2 (k : Int) (n : Nat) : List R2 := (List.range n).map fun j : Nat => ⟨k + (j : Int) * 2, k + (j : Int) * 2 + 1⟩
theorem runI_len (k : Int) (n : Nat) : (runI k n).length = n := by simp [runI]
theorem run2_len (k : Int) (n : Nat) : (run2 k n).length = n := by simp [run2]
theorem rows_run2 (k : Int) (n : Nat) : rows R2.vs (run2 k n) = marks (.int .i64) k (n * 2) := by
  induction n with
  | zero => simp [run2, marks, rows]
  | succ n ih =>
    have e1 : run2 k (n + 1) = run2 k n ++ [⟨k + (n : Int) * 2, k + (n : Int) * 2 + 1⟩] := by simp [run2, List.range_succ]
    have e2 : marks (Value.int .i64) k ((n + 1) * 2) = marks (Value.int .i64) k (n * 2) ++ [.int .i64 (k + ((n * 2 : Nat) : Int)), .int .i64 (k + ((n * 2 + 1 : Nat) : Int))] := by
      rw [show (n + 1) * 2 = n * 2 + 1 + 1 by omega]
      simp [marks, List.range_succ]
    rw [e1, rows_app, ih, rows_one, e2]
    congr 1
    simp only [R2.vs]
    have h1 : k + (n : Int) * 2 = k + ((n * 2 : Nat) : Int) := by omega
    have h2 : k + (n : Int) * 2 + 1 = k + ((n * 2 + 1 : Nat) : Int) := by omega
    rw [h2, h1]

/-- Records stored one behind the other. -/
theorem put2 {A rest : List Value} {m : Nat} (a b : Value) (hl : A.length = m) (h : 2 ≤ rest.length) : ((A ++ rest).set m a).set (m + 1) b = (A ++ [a, b]) ++ rest.drop 2 := by
  subst hl
  match rest, h with
  | x0 :: x1 :: r, _ => simp
theorem put3 {A rest : List Value} {m : Nat} (a b c : Value) (hl : A.length = m) (h : 3 ≤ rest.length) : (((A ++ rest).set m a).set (m + 1) b).set (m + 2) c = (A ++ [a, b, c]) ++ rest.drop 3 := by
  subst hl
  match rest, h with
  | x0 :: x1 :: x2 :: r, _ => simp
theorem put4 {A rest : List Value} {m : Nat} (a b c d : Value) (hl : A.length = m) (h : 4 ≤ rest.length) : ((((A ++ rest).set m a).set (m + 1) b).set (m + 2) c).set (m + 3) d = (A ++ [a, b, c, d]) ++ rest.drop 4 := by
  subst hl
  match rest, h with
  | x0 :: x1 :: x2 :: x3 :: r, _ => simp
theorem put5 {A rest : List Value} {m : Nat} (a b c d e : Value) (hl : A.length = m) (h : 5 ≤ rest.length) : (((((A ++ rest).set m a).set (m + 1) b).set (m + 2) c).set (m + 3) d).set (m + 4) e = (A ++ [a, b, c, d, e]) ++ rest.drop 5 := by
  subst hl
  match rest, h with
  | x0 :: x1 :: x2 :: x3 :: x4 :: r, _ => simp
section
variable {base g n cap : Nat} {T : TypeId} {A rest : List Value} {m : Nat} {w : World}
theorem own_put2 (h : w.ownsRow base T 2 (.slice (some ⟨g, 0, none⟩) n cap) n (A ++ rest)) (hl : A.length = m) (hr : 2 ≤ rest.length) (a b : Value) :
    ((w.setCell ⟨g, m, none⟩ a).setCell ⟨g, m + 1, none⟩ b).ownsRow base T 2 (.slice (some ⟨g, 0, none⟩) n cap) n ((A ++ [a, b]) ++ rest.drop 2) ∧ w.grownBy ((w.setCell ⟨g, m, none⟩ a).setCell ⟨g, m + 1, none⟩ b) (some g) := by
  rw [← put2 a b hl hr]
  obtain ⟨h1, g1⟩ := h.stored m a
  obtain ⟨h2, g2⟩ := h1.stored (m + 1) b
  exact ⟨h2, g1.trans g2⟩
theorem own_put3 (h : w.ownsRow base T 3 (.slice (some ⟨g, 0, none⟩) n cap) n (A ++ rest)) (hl : A.length = m) (hr : 3 ≤ rest.length) (a b c : Value) :
    (((w.setCell ⟨g, m, none⟩ a).setCell ⟨g, m + 1, none⟩ b).setCell ⟨g, m + 2, none⟩ c).ownsRow base T 3 (.slice (some ⟨g, 0, none⟩) n cap) n ((A ++ [a, b, c]) ++ rest.drop 3) ∧ w.grownBy (((w.setCell ⟨g, m, none⟩ a).setCell ⟨g, m + 1, none⟩ b).setCell ⟨g, m + 2, none⟩ c) (some g) := by
  rw [← put3 a b c hl hr]
  obtain ⟨h1, g1⟩ := h.stored m a
  obtain ⟨h2, g2⟩ := h1.stored (m + 1) b
  obtain ⟨h3, g3⟩ := h2.stored (m + 2) c
  exact ⟨h3, (g1.trans g2).trans g3⟩
theorem own_put4 (h : w.ownsRow base T 4 (.slice (some ⟨g, 0, none⟩) n cap) n (A ++ rest)) (hl : A.length = m) (hr : 4 ≤ rest.length) (a b c d : Value) :
    ((((w.setCell ⟨g, m, none⟩ a).setCell ⟨g, m + 1, none⟩ b).setCell ⟨g, m + 2, none⟩ c).setCell ⟨g, m + 3, none⟩ d).ownsRow base T 4 (.slice (some ⟨g, 0, none⟩) n cap) n ((A ++ [a, b, c, d]) ++ rest.drop 4) ∧ w.grownBy ((((w.setCell ⟨g, m, none⟩ a).setCell ⟨g, m + 1, none⟩ b).setCell ⟨g, m + 2, none⟩ c).setCell ⟨g, m + 3, none⟩ d) (some g) := by
  rw [← put4 a b c d hl hr]
  obtain ⟨h1, g1⟩ := h.stored m a
  obtain ⟨h2, g2⟩ := h1.stored (m + 1) b
  obtain ⟨h3, g3⟩ := h2.stored (m + 2) c
  obtain ⟨h4, g4⟩ := h3.stored (m + 3) d
  exact ⟨h4, ((g1.trans g2).trans g3).trans g4⟩
theorem own_put5 (h : w.ownsRow base T 5 (.slice (some ⟨g, 0, none⟩) n cap) n (A ++ rest)) (hl : A.length = m) (hr : 5 ≤ rest.length) (a b c d e : Value) :
    (((((w.setCell ⟨g, m, none⟩ a).setCell ⟨g, m + 1, none⟩ b).setCell ⟨g, m + 2, none⟩ c).setCell ⟨g, m + 3, none⟩ d).setCell ⟨g, m + 4, none⟩ e).ownsRow base T 5 (.slice (some ⟨g, 0, none⟩) n cap) n ((A ++ [a, b, c, d, e]) ++ rest.drop 5) ∧ w.grownBy (((((w.setCell ⟨g, m, none⟩ a).setCell ⟨g, m + 1, none⟩ b).setCell ⟨g, m + 2, none⟩ c).setCell ⟨g, m + 3, none⟩ d).setCell ⟨g, m + 4, none⟩ e) (some g) := by
  rw [← put5 a b c d e hl hr]
  obtain ⟨h1, g1⟩ := h.stored m a
  obtain ⟨h2, g2⟩ := h1.stored (m + 1) b
  obtain ⟨h3, g3⟩ := h2.stored (m + 2) c
  obtain ⟨h4, g4⟩ := h3.stored (m + 3) d
  obtain ⟨h5, g5⟩ := h4.stored (m + 4) e
  exact ⟨h5, (((g1.trans g2).trans g3).trans g4).trans g5⟩
end
/-- Three blocks laid one behind the other. -/
theorem al3 (w : World) (o1 o2 o3 : Obj) : ∃ w3, Hid (w3 = ((w.alloc o1).alloc o2).alloc o3) ∧ Below w.heap.size w w3 ∧ w3.heap[w.heap.size]? = some o1 ∧ w3.heap[w.heap.size + 1]? = some o2 ∧ w3.heap[w.heap.size + 1 + 1]? = some o3 ∧ w3.heap.size = w.heap.size + 1 + 1 + 1 := by
  refine ⟨_, rfl, (((Below.refl _ _).alloc (Nat.le_refl _) _).alloc (by simp) _).alloc (by simp; omega) _, ?_, ?_, ?_, by simp⟩
  · rw [Below.heap_alloc _ _ _ (by simp; omega), Below.heap_alloc _ _ _ (by simp)]; exact heap_alloc_new w o1
  · have h1 := heap_alloc_new (w.alloc o1) o2
    rw [Below.heap_alloc _ _ _ (by simp)]
    simpa using h1
  · have := heap_alloc_new ((w.alloc o1).alloc o2) o3
    simpa using this
theorem al2 (w : World) (o1 o2 : Obj) : ∃ w2, Hid (w2 = (w.alloc o1).alloc o2) ∧ Below w.heap.size w w2 ∧ w2.heap[w.heap.size]? = some o1 ∧ w2.heap[w.heap.size + 1]? = some o2 := by
  refine ⟨_, rfl, ((Below.refl _ _).alloc (Nat.le_refl _) _).alloc (by simp) _, ?_, ?_⟩
  · rw [Below.heap_alloc _ _ _ (by simp)]; exact heap_alloc_new w o1
  · have h1 := heap_alloc_new (w.alloc o1) o2
    simpa using h1
theorem al1 (w : World) (o1 : Obj) : ∃ w1, Hid (w1 = w.alloc o1) ∧ Below w.heap.size w w1 ∧ w1.heap[w.heap.size]? = some o1 := ⟨_, rfl, laid_below _ _, heap_alloc_new w o1⟩
theorem own_set_low {w : World} {base : Nat} {e : TypeId} {size n : Nat} {v : Value} {xs : List Value} (h : w.ownsRow base e size v n xs) {b o : Nat} (hb : b < base) (u : Value) : (w.setCell ⟨b, o, none⟩ u).ownsRow base e size v n xs := ownsRow_setCell_below h hb u
theorem rest_len {A rest : List Value} {n k s : Nat} (h : (A ++ rest).length = n * s) (hA : A.length = k * s) (hk : k < n) : s ≤ rest.length := by
  rw [List.length_append] at h
  have : (k + 1) * s ≤ n * s := Nat.mul_le_mul_right s hk
  rw [Nat.succ_mul] at this
  omega

theorem Inn.set_low {s lo hi : Nat} {e : TypeId} {vs : List Value} {its : List (Nat × List Value)} {w : World} (h : Inn s e lo hi vs its w) {b o : Nat} (hb : b < lo) (u : Value) : Inn s e lo hi vs its (w.setCell ⟨b, o, none⟩ u) :=
  ⟨h.len, fun j v it h1 h2 => own_set_low (h.own j v it h1 h2) hb u, h.top, h.apart⟩
theorem Inn.lower {s lo lo' hi : Nat} {e : TypeId} {vs : List Value} {its : List (Nat × List Value)} {w : World} (h : Inn s e lo hi vs its w) (hl : lo' ≤ lo) : Inn s e lo' hi vs its w :=
  ⟨h.len, fun j v it h1 h2 => own_base (h.own j v it h1 h2) hl, h.top, h.apart⟩
/-- Two lists of rows, the second made behind the first. -/
theorem Inn.append {s lo mid hi : Nat} {e : TypeId} {vs us : List Value} {its jts : List (Nat × List Value)} {w : World} (h : Inn s e lo mid vs its w) (k : Inn s e mid hi us jts w) (hl : lo ≤ mid) (hh : mid ≤ hi) : Inn s e lo hi (vs ++ us) (its ++ jts) w := by
  have hvl := h.len
  have hul := k.len
  refine ⟨by simp [hvl, hul], fun j v it h1 h2 => ?_, fun j v q h1 h2 => ?_, fun i j v u hij h1 h2 => ?_⟩
  · rcases Nat.lt_or_ge j vs.length with hj | hj
    · rw [List.getElem?_append_left hj] at h1
      rw [List.getElem?_append_left (by omega)] at h2
      exact h.own j v it h1 h2
    · rw [List.getElem?_append_right hj] at h1
      rw [List.getElem?_append_right (by omega), ← hvl] at h2
      exact own_base (k.own _ v it h1 h2) hl
  · rcases Nat.lt_or_ge j vs.length with hj | hj
    · rw [List.getElem?_append_left hj] at h1
      exact Nat.lt_of_lt_of_le (h.top j v q h1 h2) hh
    · rw [List.getElem?_append_right hj] at h1
      exact k.top _ v q h1 h2
  · rcases Nat.lt_or_ge j vs.length with hj | hj
    · rw [List.getElem?_append_left hj] at h2
      rw [List.getElem?_append_left (by omega)] at h1
      exact h.apart i j v u hij h1 h2
    · rw [List.getElem?_append_right hj] at h2
      rcases Nat.lt_or_ge i vs.length with hi1 | hi1
      · rw [List.getElem?_append_left hi1] at h1
        cases hq : v.ownBlock with
        | none => exact .inl rfl
        | some q =>
          refine .inr fun e2 => ?_
          have t1 := h.top i v q h1 hq
          have hj2 : j - vs.length < jts.length := by rw [← hul]; exact (List.getElem?_eq_some_iff.1 h2).1
          have t2 := (k.own _ u _ h2 (List.getElem?_eq_getElem hj2)).lt q e2.symm
          omega
      · rw [List.getElem?_append_right hi1] at h1
        exact k.apart _ _ v u (by omega) h1 h2
theorem SGrid.cell {E : Type} {K : Knd E} {base hi : Nat} {T Te : TypeId} {s g n cap k j : Nat} {es : List E} {e : E} {u : Value} {W : World} (h : SGrid K base hi T Te s (.slice (some ⟨g, 0, none⟩) n cap) es W) (hk : es[k]? = some e) (hj : (K.vs e)[j]? = some u) : W.cell? ⟨g, k * K.s0 + j, none⟩ = some u := by
  have hj2 : j < K.s0 := by rw [← K.vs_len e]; exact (List.getElem?_eq_some_iff.1 hj).1
  have hk2 := (List.getElem?_eq_some_iff.1 hk).1
  have hlt : k * K.s0 + j < es.length * K.s0 := by
    have : (k + 1) * K.s0 ≤ es.length * K.s0 := Nat.mul_le_mul_right _ hk2
    rw [Nat.succ_mul] at this
    omega
  have hl : n = es.length := by
    obtain ⟨A, c, e1⟩ := own_form h.own
    injection e1
  have ho := h.own
  rw [← hl] at ho hlt
  rw [ho.cellAt _ hlt, rows_at K.vs_len hk hj2]
  exact hj
theorem SGrid.thaw {E : Type} {K : Knd E} {base hi : Nat} {T Te : TypeId} {s g n cap : Nat} {es : List E} {W : World} (h : SGrid K base hi T Te s (.slice (some ⟨g, 0, none⟩) n cap) es W) (i : Nat) : W.frozen? ⟨g, i, none⟩ = false := by
  have hl : n = es.length := by
    obtain ⟨A, c, e1⟩ := own_form h.own
    injection e1
  have ho := h.own
  rw [← hl] at ho
  exact ho.frozenAt i
theorem SGrid.addr {E : Type} {K : Knd E} {base hi : Nat} {T Te : TypeId} {s n : Nat} {V : Value} {es : List E} {W : World} (h : SGrid K base hi T Te s V es W) (hn : es.length = n) (h0 : 0 < n) : ∃ g cap, V = .slice (some ⟨g, 0, none⟩) n cap := by
  have ho := h.own
  rw [hn] at ho
  obtain ⟨A, c, rfl⟩ := own_form ho
  obtain ⟨g, rfl, _, _⟩ := own_addr0 ho h0
  exact ⟨g, c, rfl⟩
section
variable {E : Type} {K : Knd E} {base hi : Nat} {T Te : TypeId} {s n c : Nat} {es : List E} {W : World}
theorem SGrid.len {A : Option Addr} (h : SGrid K base hi T Te s (.slice A n c) es W) : n = es.length := by
  obtain ⟨A', c', e1⟩ := own_form h.own
  injection e1
theorem SGrid.argsN {A : Option Addr} (h : SGrid K base hi T Te s (.slice A n c) es W) : Args K.s0 W A n (rows K.vs es) := by
  have ho := h.own
  rw [← h.len] at ho
  exact args_of_own ho
theorem SGrid.slN {g : Nat} (h : SGrid K base hi T Te s (.slice (some ⟨g, 0, none⟩) n c) es W) : Sl W g 0 (rows K.vs es) := by
  have ho := h.own
  rw [← h.len] at ho
  exact sl_of_own ho
end
end Go.Proofs.YtgcedfpjgdeakaaDoor

/- The builtin copy on rows of records; the row behind it is a variable's. Plain laws. -/
namespace Go.Proofs.YtgcedfpjgdeakaaDoor
open Go.RowKit
set_option linter.all false

section
variable {P : Program}
theorem run_copy_rows (w : World) (dT sT ty elem : TypeId) (g o dLen dCap : Nat) (a : Addr) (sLen sCap s m : Nat) (cur : Array Value) (t : TypeId) (cs : List Value)
    (hu : P.underlying dT = some (.slice elem)) (hs : (P.info? elem).map (·.size) = some s)
    (hg : w.heap[g]? = some (.cells cur t (0, 0))) (hm : Nat.min sLen dLen = m) (hn : cs.length = m * s)
    (hsrc : ∀ j v, cs[j]? = some v → w.cell? (a.add j) = some v) (hfit : o + cs.length ≤ cur.size) (h1 : ∀ v ∈ cs, v.oneCell' = true) :
    (Builtin.copy_ #[dT, sT] ty #[.slice (some ⟨g, o, none⟩) dLen dCap, .slice (some a) sLen sCap]).run P w =
      .ok (goInt m) (w.setRow g (cur.toList.take o ++ cs ++ cur.toList.drop (o + cs.length)).toArray) := by
  have hl := run_loadCells_list (P := P) w a cs hsrc
  have hst := run_storeCells_at P g o t cs 0 cur w hg (by simpa using hfit) h1
  cases hq : P.info? elem with
  | none => simp [hq] at hs
  | some i =>
    have hi : i.size = s := by simpa [hq] using hs
    simp [Builtin.copy_, run_underlying hu, Builtin.lenOf, Builtin.firstCells, sizeOf, typeInfo, hq, hi, hm, ← hn, hl, hst]
theorem wpList_copy_rows {w : World} {ops : Array Oper} {rest : List Oper} {o : Oper} {a : Act} {Q : Exit → Act → World → Prop} (hgd : o.guard = none) (d s : Operand) (dT sT : TypeId)
    (ho : o.op = .call { callee := .builtin .copy, args := #[d, s], argTypes := #[dT, sT] }) (elem : TypeId) (hu : P.underlying dT = some (.slice elem)) {z : Nat} (hsz : (P.info? elem).map (·.size) = some z)
    (g off dLen dCap : Nat) (ad : Addr) (sLen sCap : Nat) (hd : a.eval d = .slice (some ⟨g, off, none⟩) dLen dCap) (hs : a.eval s = .slice (some ad) sLen sCap)
    (cur : List Value) (t : TypeId) (hg : w.heap[g]? = some (.cells cur.toArray t (0, 0))) (m : Nat) (hm : Nat.min sLen dLen = m) (cs : List Value) (hn : cs.length = m * z)
    (hsrc : ∀ j v, cs[j]? = some v → w.cell? (ad.add j) = some v) (hfit : off + cs.length ≤ cur.length) (h1 : ∀ v ∈ cs, v.oneCell' = true) (B : Nat) (w0 : World) (hb : Below B w0 w) (hBg : B ≤ g)
    (h : ∀ w', Hid (w'.heap[g]? = some (.cells (cur.take off ++ cs ++ cur.drop (off + cs.length)).toArray t (0, 0))) → Below B w0 w' → wpList P ops Q rest (a.put o.dst (goInt m)) w') : wpList P ops Q (o :: rest) a w := by
  refine wpList_plain hgd fun K hK => ?_
  have hrun := run_copy_rows (P := P) w dT sT o.type elem g off dLen dCap ad sLen sCap z m cur.toArray t cs hu hsz hg hm hn hsrc (by simpa using hfit) h1
  unfold Oper.wp
  simp [execOp, ho, resolve, invoke, builtin, hd, hs, hrun, Result.andThen]
  refine hK _ _ (h _ ?_ (below_setRow hb hBg _))
  have := setRow_heap w g _ (cur.take off ++ (cs ++ cur.drop (off + cs.length))).toArray t _ hg
  simpa [Hid] using this
theorem step_copy_rows {w : World} {ops : Array Oper} {o : Oper} {a : Act} {K : Act → World → Prop} {Q : Exit → Act → World → Prop} {E : Prop} (hgd : o.guard = none) (d s : Operand) (dT sT : TypeId)
    (ho : o.op = .call { callee := .builtin .copy, args := #[d, s], argTypes := #[dT, sT] }) (elem : TypeId) (hu : P.underlying dT = some (.slice elem)) {z : Nat} (hsz : (P.info? elem).map (·.size) = some z)
    (g off dLen dCap : Nat) (ad : Addr) (sLen sCap : Nat) (hd : a.eval d = .slice (some ⟨g, off, none⟩) dLen dCap) (hs : a.eval s = .slice (some ad) sLen sCap)
    (cur : List Value) (t : TypeId) (hg : w.heap[g]? = some (.cells cur.toArray t (0, 0))) (m : Nat) (hm : Nat.min sLen dLen = m) (cs : List Value) (hn : cs.length = m * z)
    (hsrc : ∀ j v, cs[j]? = some v → w.cell? (ad.add j) = some v) (hfit : off + cs.length ≤ cur.length) (h1 : ∀ v ∈ cs, v.oneCell' = true) (B : Nat) (w0 : World) (hb : Below B w0 w) (hBg : B ≤ g)
    (h : ∀ w', Hid (w'.heap[g]? = some (.cells (cur.take off ++ cs ++ cur.drop (off + cs.length)).toArray t (0, 0))) → Below B w0 w' → K (a.put o.dst (goInt m)) w') :
    if Region.wanted o (yielded ops a.tmps) = true then Oper.wp P o a w K Q else E := by
  have hw : Region.wanted o (yielded ops a.tmps) = true := by simp [Region.wanted, hgd]
  rw [if_pos hw]
  have hrun := run_copy_rows (P := P) w dT sT o.type elem g off dLen dCap ad sLen sCap z m cur.toArray t cs hu hsz hg hm hn hsrc (by simpa using hfit) h1
  unfold Oper.wp
  simp [execOp, ho, resolve, invoke, builtin, hd, hs, hrun, Result.andThen]
  refine h _ ?_ (below_setRow hb hBg _)
  have := setRow_heap w g _ (cur.take off ++ (cs ++ cur.drop (off + cs.length))).toArray t _ hg
  simpa [Hid] using this
end
/-- 'x[l:]': one address, whether room is left or not. -/
theorem run_slice_tailR {P : Program} (t e : TypeId) {z : Value} {s bytes : Nat} (ht : P.underlying t = some (.slice e)) (hinfo : (P.info? e).map (fun i => (i.zero, i.size, i.bytes)) = some (some z, s, bytes))
    (b off n c l : Nat) (i : Int) (hi : i = l) (hh : l ≤ n) (hc : n ≤ c) :
    ∃ o', (n - l = 0 ∨ o' = off + l * s) ∧ ∀ W, (Instr.slice t (.slice (some ⟨b, off, none⟩) n c) (some (.int .i64 i)) none none).run P W = .ok (.slice (some ⟨b, o', none⟩) (n - l) (c - l)) W := by
  obtain ⟨ti, hti, hz, hsize, hb⟩ := info_parts hinfo
  have he : P.elem t = e := by simp [Program.elem, ht]
  refine ⟨if c = l then off else off + l * s, ?_, fun W => ?_⟩
  · by_cases h0 : c = l
    · exact .inl (by omega)
    · exact .inr (by rw [if_neg h0])
  · rw [run_slice_l W t (some ⟨b, off, none⟩) n c (by rw [he]; exact ht) .i64 i (by omega) (by omega)]
    subst hi
    have hsz : ∀ W, (sizeOf (P.elem t)).run P W = .ok s W := by intro W; rw [he]; simp [sizeOf, typeInfo, hti, hsize]
    rw [hsz]
    simp only [Result.andThen, sliced, Int.toNat_natCast]
    by_cases h0 : c = l
    · simp [h0]
    · simp only [if_neg h0, Option.map_some]
      rw [addr_add]

/-- A row known by its block is owned. -/
theorem own_of_block {w : World} {base g n cap : Nat} {t : TypeId} {s : Nat} {xs : List Value} (h : w.heap[g]? = some (.cells xs.toArray t (0, 0))) (hb : base ≤ g) (hs : xs.length = cap * s) (hn : n ≤ cap) (hm : cap ≤ maxLen) : w.ownsRow base t s (.slice (some ⟨g, 0, none⟩) n cap) n (xs.take (n * s)) := by
  refine ⟨?_, .inr ⟨g, cap, xs.toArray, rfl, hb, h, hn, hm, by simpa using hs, by simp⟩⟩
  rw [List.length_take, hs]
  have : n * s ≤ cap * s := Nat.mul_le_mul_right _ hn
  omega
theorem made_zero2 (m : Nat) : madeCells (Value.cells (.agg #[.int .i64 0, .int .i64 0])) (m * 2) = (rows R2.vs (List.replicate m (⟨0, 0⟩ : R2))).toArray := by
  apply Array.ext
  · rw [size_madeCells]; simp [rows_len R2.vs_len]
  · intro i h1 h2
    have hi : i < m * 2 := by rw [size_madeCells] at h1; exact h1
    have e1 : (madeCells (Value.cells (.agg #[.int .i64 0, .int .i64 0])) (m * 2))[i] = .int .i64 0 := by
      have hm : i % 2 = 0 ∨ i % 2 = 1 := by omega
      rcases hm with hm | hm <;> simp [madeCells, Value.cells, hm]
    have e2 : (rows R2.vs (List.replicate m (⟨0, 0⟩ : R2)))[i]? = some (.int .i64 0) := by
      have hq : i / 2 < m := by omega
      have hx : (List.replicate m (⟨0, 0⟩ : R2))[i / 2]? = some ⟨0, 0⟩ := by simp [hq]
      have hr := rows_at R2.vs_len hx (j := i % 2) (by omega)
      rw [show i / 2 * 2 + i % 2 = i by omega] at hr
      rw [hr]
      have hm : i % 2 = 0 ∨ i % 2 = 1 := by omega
      rcases hm with hm | hm <;> simp [R2.vs, hm]
    rw [e1]
    simp only [List.getElem_toArray]
    have := List.getElem?_eq_some_iff.1 e2
    exact this.2.symm
end Go.Proofs.YtgcedfpjgdeakaaDoor

/- 'append' of a whole slice onto a row of the call's own, with where the new row lies; rows that keep off it. Plain laws. -/
namespace Go.Proofs.YtgcedfpjgdeakaaDoor
open Go.RowKit
set_option linter.all false

theorem wpList_appy {P : Program} {w : World} {ops : Array Oper} {rest : List Oper} {o : Oper} {a : Act} {Q : Exit → Act → World → Prop} (hgd : o.guard = none) (s x : Operand) (t : TypeId)
    (ho : o.op = .call { callee := .builtin .append, args := #[s, x], argTypes := #[t, t] })
    {e : TypeId} {z : Value} {size bytes : Nat} (ht : P.underlying t = some (.slice e)) (hinfo : (P.info? e).map (fun i => (i.zero, i.size, i.bytes)) = some (some z, size, bytes)) (hzs : z.cells.size = size) (hsz : 0 < size)
    (base : Nat) {v : Value} {n : Nat} {xs : List Value} (hown : w.ownsRow base e size v n xs) (hbase : base ≤ w.heap.size) (hs : a.eval s = v)
    {u : Value} {m : Nat} {ys : List Value} (hsrc : Src size w u m ys) (hx : a.eval x = u) (h1 : ∀ u ∈ ys, u.oneCell' = true) (h63 : n + m ≤ maxLen) (hbytes : (n + m) * bytes ≤ 140737488355328)
    (h : ∀ v' w', w'.ownsRow base e size v' (n + m) (xs ++ ys) → w.grownBy w' v.ownBlock → (v'.ownBlock = v.ownBlock ∨ v'.ownBlock = some w.heap.size) → wpList P ops Q rest (a.put o.dst v') w') : wpList P ops Q (o :: rest) a w := by
  obtain ⟨i, hi, hz, hsize, hby⟩ := info_parts hinfo
  rcases hsrc.2 with ⟨rfl, rfl⟩ | ⟨b, off, c, rfl, hsl⟩
  · have hys : ys = [] := List.eq_nil_of_length_eq_zero (by simpa using hsrc.1)
    subst hys
    have hr := run_append_nothing (P := P) (w := w) base t o.type e i size ht hi v n xs hown 0
    refine wpList_plain hgd fun K hK => ?_
    unfold Oper.wp execOp
    simp only [ho, resolve, invoke, builtin, Sem.run_bind, Sem.run_pure, Result.andThen_ok, List.map_toArray, List.map_cons, List.map_nil, hs, hx, hr]
    exact hK _ _ (h v w (by simpa using hown) (World.grownBy.refl _ _) (.inl rfl))
  · refine wpList_append_own_at w hgd s x t ho base e i z size bytes ht hi hz hsize hby hzs hsz v n xs hs hown ⟨b, off, none⟩ m c ys hx hsrc.1 (fun j u hu => by rw [addr_add]; exact hsl.2 j u hu) h1 h63 hbytes hbase ?_
    intro v' w' h2 h3 _ h5
    exact h v' w' h2 h3 h5
/-- A row whose block lies below lo, or from hi on. -/
def OutB (lo hi : Nat) (v : Value) : Prop := ∀ k, v.ownBlock = some k → k < lo ∨ hi ≤ k
theorem OutB.low {w : World} {base lo hi : Nat} {e : TypeId} {size n : Nat} {v : Value} {xs : List Value} (h : w.ownsRow base e size v n xs) (hl : w.heap.size ≤ lo) : OutB lo hi v := fun k hk => .inl (Nat.lt_of_lt_of_le (h.lt k hk).2 hl)
theorem OutB.step {w : World} {lo hi : Nat} {v v' : Value} (h : OutB lo hi v) (hh : hi ≤ w.heap.size) (hl : v'.ownBlock = v.ownBlock ∨ v'.ownBlock = some w.heap.size) : OutB lo hi v' := by
  intro k hk
  rcases hl with hl | hl
  · exact h k (by rw [← hl]; exact hk)
  · rw [hl] at hk; injection hk with hk; exact .inr (hk ▸ hh)
theorem OutB.apart {w : World} {lo hi : Nat} {e : TypeId} {size n : Nat} {u v : Value} {xs : List Value} (h : OutB lo hi v) (own : w.ownsRow lo e size u n xs) (top : ∀ k, u.ownBlock = some k → k < hi) : u.ownBlock = none ∨ u.ownBlock ≠ v.ownBlock := by
  cases hu : u.ownBlock with
  | none => exact .inl rfl
  | some k =>
    refine .inr fun e2 => ?_
    have h1 := (own.lt k hu).1
    have h2 := top k hu
    rcases h k e2.symm with h3 | h3 <;> omega
end Go.Proofs.YtgcedfpjgdeakaaDoor

/- Reading the text of a lambda term, by the reference: l12Read, at texts whose numbers are single digits. -/
namespace Go.Proofs.YtgcedfpjgdeakaaDoor
open Go.RowKit
set_option linter.all false

theorem l01Digit_is (b : Int) (v : Bool) (h : (decide (48 ≤ b) && decide (b ≤ 57)) = v) (w : World) :
    Calls Tryd.prog 92 #[.int .u8 b] w fun e w' => e = .returned (.bool v) ∧ w = w' := by
  by_cases h1 : 48 ≤ b
  · by_cases h2 : b ≤ 57
    · have HV : Hid (true = v) := by unfold Hid; rw [← h]; simp [h1, h2]
      clear h
      go_enter Tryd.func92, Tryd.ntmps92
      go_wp2
      go_ret
      exact ⟨ret_bool HV.out, rfl⟩
    · have HV : Hid (false = v) := by unfold Hid; rw [← h]; simp [h1, h2]
      clear h
      go_enter Tryd.func92, Tryd.ntmps92
      go_wp2
      go_ret
      exact ⟨ret_bool HV.out, rfl⟩
  · have HV : Hid (false = v) := by unfold Hid; rw [← h]; simp [h1]
    clear h
    go_enter Tryd.func92, Tryd.ntmps92
    go_wp2
    go_ret
    exact ⟨ret_bool HV.out, rfl⟩

theorem digB_int (b : UInt8) : (decide ((48 : Int) ≤ (b.toNat : Int)) && decide ((b.toNat : Int) ≤ 57)) = digB b := by
  unfold digB
  rw [Bool.eq_iff_iff]; simp only [Bool.and_eq_true, decide_eq_true_eq]; omega

theorem str_at {s : ByteArray} {l : List UInt8} (h : s.data.toList = l) {k : Nat} {b : UInt8} {r : List UInt8} (hd : l.drop k = b :: r) : ∃ hk : k < s.size, s[k] = b := by
  subst h
  have hk : k < s.data.toList.length := by
    have := congrArg List.length hd
    rw [List.length_drop, List.length_cons] at this; omega
  refine ⟨by simpa using hk, ?_⟩
  rw [List.drop_eq_getElem_cons hk] at hd
  injection hd with h1 _

theorem drop_next {l : List UInt8} {k : Nat} {b : UInt8} {r : List UInt8} (hd : l.drop k = b :: r) : l.drop (k + 1) = r := by
  rw [← List.drop_drop, hd]; rfl

theorem l01Number_one (s : ByteArray) (d : Nat) (hd : d < 10) (hs : s.data.toList = [UInt8.ofNat (48 + d)]) (w : World) :
    Calls Tryd.prog 93 #[.string s] w fun e w' => e = .returned (.tuple #[.int .i64 d, .bool true]) ∧ Below w.heap.size w w' := by
  have hsz : s.size = 1 := by have := congrArg List.length hs; simpa using this
  obtain ⟨h0, hk0⟩ := str_at hs (k := 0) (b := UInt8.ofNat (48 + d)) (r := []) rfl
  have hb : (s[0].toNat : Int) = 48 + (d : Int) := by rw [hk0, dig_toNat hd]; omega
  have hb1 : (s[0].toNat : Int) ≠ 45 := by omega
  have hsI : (s.size : Int) = 1 := by omega
  have HDG := Lib.hid (l01Digit_is (s[0].toNat : Int) true (by rw [hb]; simp; omega))
  have hu : IntKind.u8.wrap ((s[0].toNat : Int) - 48) = (d : Int) := by
    rw [hb]
    simp only [IntKind.wrap, IntKind.bits, IntKind.signed]
    first | omega | (simp; omega)
  have hi0 : IntKind.i64.wrap (d : Int) = (d : Int) := IntWalk.i64_in _ (by omega)
  clear hs hk0
  have hbe : ((s[0].toNat : Int) == 45) = false := by rw [beq_eq_false_iff_ne]; exact hb1
  have hl0 : (0 : Int) < (s.size : Int) := by omega
  rw [hsI] at hl0
  obtain ⟨v48, h48⟩ : ∃ v, ((s[0].toNat : Int) == 48) = v := ⟨_, rfl⟩
  clear hb hb1
  cases v48
  all_goals
    go_enter Tryd.func93, Tryd.ntmps93
    go_wp2_with fail
    go_loopw [5, 6] (fun m i wr => ∃ j : Nat, j ≤ 1 ∧ i = .int .i64 (j : Int) ∧ m = .int .i64 (if j = 0 then 0 else (d : Int)) ∧ wr = w) (fun _ i _ => 1 - (intOf i).toNat)
    case atStart => exact ⟨0, by omega, rfl, rfl, rfl⟩
    case round =>
      obtain ⟨j, hj, rfl, rfl, rfl⟩ := hrel
      rcases Nat.lt_or_ge j 1 with hj0 | hj0
      · obtain rfl : j = 0 := by omega
        rw [if_pos rfl]
        rw [show ((0 : Nat) : Int) = 0 from rfl]
        go_wp2_with fail
        refine (HDG.out _).mono ?_
        rintro e w1 ⟨rfl, rfl⟩
        go_wp2_with fail
        go_roundw
        case rel => refine ⟨1, by omega, ?_, ?_, ?_⟩ <;> first | rfl | trivial | simp
        case measure => simp [intOf]
      · obtain rfl : j = 1 := by omega
        rw [if_neg (by decide)]
        rw [show ((1 : Nat) : Int) = 1 from rfl]
        go_wp2_with fail
        go_ret2
        exact ⟨rfl, Below.refl _ _⟩
end Go.Proofs.YtgcedfpjgdeakaaDoor

/- strings.Builder: one that the call itself has made, written byte by byte and read once. -/
namespace Go.Proofs
open Go.Shelf
def Tryd.lays169_ren : Go.Shelf.Ren := ⟨fun | 169 => 64 | n => n, fun | 70 => 104 | 9 => 9 | 0 => 0 | 72 => 107 | 37 => 105 | 127 => 138 | 3 => 3 | 5 => 5 | n => n, fun | n => n⟩
theorem Tryd.lays169 : Go.Proofs.Lays.n169 Tryd.prog Tryd.lays169_ren := {
  mixed := by kernel_rfl
  f169 := Tryd.func64.trans (congrArg some (by kernel_rfl))
  t0 := Tryd.underlying0
  a0 := Tryd.isAgg0
  z0 := Tryd.sizeOf0
  v0 := Tryd.zeroValue0
  t3 := Tryd.underlying3
  a3 := Tryd.isAgg3
  z3 := Tryd.sizeOf3
  v3 := Tryd.zeroValue3
  t9 := Tryd.underlying9
  a9 := Tryd.isAgg9
  z9 := Tryd.sizeOf9
  v9 := Tryd.zeroValue9
  t37 := Tryd.underlying105
  a37 := Tryd.isAgg105
  z37 := Tryd.sizeOf105
  v37 := Tryd.zeroValue105
  t70 := Tryd.underlying104
  a70 := Tryd.isAgg104
  z70 := Tryd.sizeOf104
  v70 := Tryd.zeroValue104
  t72 := Tryd.underlying107
  a72 := Tryd.isAgg107
  z72 := Tryd.sizeOf107
  v72 := Tryd.zeroValue107
  t127 := Tryd.underlying138
  a127 := Tryd.isAgg138
  z127 := Tryd.sizeOf138
  v127 := Tryd.zeroValue138 }
theorem Tryd.Builder_Extra_169 : Builder.Extra Tryd.prog Tryd.lays169_ren := {
  sizeBuilder := by kernel_rfl
  liesBuilder := by kernel_rfl
  t5 := Tryd.underlying5
  a5 := Tryd.isAgg5
  z5 := Tryd.sizeOf5
  v5 := Tryd.zeroValue5
  infoByte := by kernel_rfl
  cellsByte := by kernel_rfl
  sizeByte := by kernel_rfl
  neB5 := by decide }
open Go.RowKit in
theorem Tryd.Builder_String_any (B b : Nat) (l : List UInt8) (w : World) (h : Lib.IsBuilder 107 5 B b (Lib.byteCells l) w) (hBw : B ≤ w.heap.size) :
    Calls Tryd.prog 64 #[.pointer (some ⟨b, 0, none⟩)] w fun e w' => e = .returned (.string ⟨l.toArray⟩) ∧ Below B w w' := Any.Builder_String_any Tryd.lays169 Tryd.Builder_Extra_169 B b l w h hBw
namespace YtgcedfpjgdeakaaDoor
open Go.RowKit
set_option linter.all false

/-- Of the blocks that were there, only such of a builder's and of bytes may have turned. -/
structure KeepB (w w' : World) : Prop where
  os : w'.os = w.os
  tape : w'.tape = w.tape
  output : w'.output = w.output
  size : w.heap.size ≤ w'.heap.size
  block : ∀ (g : Nat) (cs : Array Value) (t : TypeId) (fr : Nat × Nat), w.heap[g]? = some (.cells cs t fr) → t ≠ 107 → t ≠ 5 → w'.heap[g]? = some (.cells cs t fr)
theorem KeepB.refl (w : World) : KeepB w w := ⟨rfl, rfl, rfl, Nat.le_refl _, fun _ _ _ _ h _ _ => h⟩
theorem KeepB.trans {a b c : World} (h : KeepB a b) (k : KeepB b c) : KeepB a c :=
  ⟨k.os.trans h.os, k.tape.trans h.tape, k.output.trans h.output, Nat.le_trans h.size k.size, fun g cs t fr hg h1 h2 => k.block g cs t fr (h.block g cs t fr hg h1 h2) h1 h2⟩
theorem KeepB.drew {a b : World} (h : KeepB a b) : KeepB a b.drew := ⟨h.os, h.tape, h.output, h.size, h.block⟩

theorem infoU8 : (Tryd.prog.info? 5).map (fun i => (i.zero, i.size, i.bytes)) = some (some (.int .u8 0), 1, 1) := by kernel_rfl

theorem sizeBld : (Tryd.prog.info? 107).map (·.size) = some 2 := by kernel_rfl
theorem liesBld : liesAt Tryd.prog Tryd.prog.depth 107 (2 / Tryd.prog.cellsOf 107) 0 107 1 = true := by kernel_rfl
set_option maxRecDepth 100000 in
theorem copyCheck_any (B b : Nat) (bs : List Value) (w : World) (h : Lib.IsBuilder 107 5 B b bs w) :
    Calls Tryd.prog 87 #[.pointer (some ⟨b, 0, none⟩)] w fun e w' => e = .returned (.tuple #[]) ∧ Lib.BuilderAt 107 5 B b (.pointer (some ⟨b, 0, none⟩)) bs w' ∧ Below B w w' ∧ KeepB w w' := by
  rcases h with h | h
  · have hB := h.1
    have hc := h.cell0
    have hf := h.frozen0
    have hsh := h.shape
    have HU := Lib.hid (h.used (.pointer (some ⟨b, 0, none⟩)))
    have HK : Hid (KeepB w (w.setCell ⟨b, 0, none⟩ (.pointer (some ⟨b, 0, none⟩)))) := by
      obtain ⟨_, v, hb, _⟩ := h
      refine ⟨rfl, rfl, rfl, by simp [World.setCell], fun g cs t fr hg h1 h2 => heap_set_other hg _ (fun e => ?_) _⟩
      have e' : g = b := e
      subst e'
      rw [hb] at hg
      injection hg with hg
      injection hg with _ ht
      exact h1 ht.symm
    clear h
    go_enter Tryd.func87, Tryd.ntmps87
    obtain ⟨j, hj, hjs⟩ := Option.map_eq_some_iff.1 sizeBld
    have HJ := Lib.hid hj
    clear hj
    go_wp2_with fail
    rw [Lib.run_to_unsafe w ⟨b, 0, none⟩ Tryd.underlying104 Tryd.underlying148 HJ.out (by rw [hjs]; decide) hsh (Nat.zero_lt_succ 1)]
    simp only [Result.andThen]
    rw [Oper.upon_value]
    go_wp2_with fail
    rw [run_callFunc_extern Tryd.func106 (by kernel_rfl) (by kernel_rfl) (by kernel_rfl) (e := Extern.AbiNoEscape.same) (by kernel_rfl)]
    rw [Lib.run_noEscape]
    simp only [Result.andThen]
    rw [Oper.upon_value]
    go_wp2_with fail
    rw [Lib.run_from_unsafe w ⟨b, 0, none⟩ Tryd.underlying148 Tryd.underlying104 HJ.out hsh liesBld]
    simp only [Result.andThen]
    rw [Oper.upon_value]
    go_wp2_with fail
    go_end0
    exact ⟨rfl, HU.out, (Below.refl B w).setCell (p := ⟨b, 0, none⟩) hB _, HK.out⟩
  · have hc := h.cell0
    have H := Lib.hid h
    clear h
    obtain ⟨j, hj, _⟩ := Option.map_eq_some_iff.1 sizeBld
    have HJ := Lib.hid hj
    clear hj
    go_enter Tryd.func87, Tryd.ntmps87
    go_wp2_with fail
    rw [Lib.run_neq_ptr_same w _ Tryd.underlying104 HJ.out]
    go_wp2_with fail
    go_end0
    exact ⟨rfl, H.out, Below.refl B _, KeepB.refl _⟩
end YtgcedfpjgdeakaaDoor
end Go.Proofs
