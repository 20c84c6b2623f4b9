/- The law FnExactRunFuncProgram returns true for every input, and each argument reads afterwards as before: the proof, part 2. No conditions. -/
import Derived.Test.YtjggkgdojhlhpaaGreatRunFuncProgramZa
import Derived.StillTailTactics
/- Loop programs of recursive functions: what they are. Plain lemmas. -/
namespace Go.Proofs.YtjggkgdojhlhpaaGreat
set_option linter.all false

/-- Where the first function of a row of functions ends. -/
def endL (l : List R3) : Nat := (tPosAt fMany 1 0 l).toNat
/-- The functions of a row, m of them. -/
def cut : Nat → List R3 → List (List R3)
  | 0, _ => []
  | m + 1, l => l.take (endL l) :: cut m (l.drop (endL l))
theorem cut_len : ∀ (m : Nat) (l : List R3), (cut m l).length = m
  | 0, _ => rfl
  | m + 1, l => by rw [cut, List.length_cons, cut_len]
theorem fRun_end (l : List R3) : ∀ (st : List Int) (r : List R3), fRun st l = some r → ∃ q : Nat, q ≤ l.length ∧ tPosAt fMany st.length 0 l = (q : Int) ∧ r = l.drop q ∧ fRun st (l.take q) = some [] := by
  induction l with
  | nil =>
    intro st r h
    cases st with
    | nil => rw [fRun_nil] at h; injection h with h; exact ⟨0, by simp, by rw [List.length_nil, tPosAt_zero], h.symm, by rw [List.take_nil, fRun_nil]⟩
    | cons a st => rw [fRun_none] at h; cases h
  | cons x l ih =>
    intro st r h
    cases st with
    | nil => rw [fRun_nil] at h; injection h with h; exact ⟨0, by simp, by rw [List.length_nil, tPosAt_zero], h.symm, by rw [List.take_zero, fRun_nil]⟩
    | cons a st =>
      by_cases hh : (a < 0 ∨ x.b = a) ∧ fOkN x = true
      · rw [fRun_cons hh] at h
        obtain ⟨q, h1, h2, h3, h4⟩ := ih _ _ h
        refine ⟨q + 1, by simp; omega, ?_, by rw [List.drop_succ_cons]; exact h3, by rw [List.take_succ_cons, fRun_cons hh]; exact h4⟩
        rw [List.length_cons, tPosAt_succ]
        rw [List.length_append, fFols_len hh.2] at h2
        have h5 := tPosAt_from (q := q) (k := 0) (by rw [h2]; simp) (0 + 1)
        rw [Nat.add_comm st.length, h5]
        congr 1
        omega
      · rw [fRun_bad hh] at h; cases h
theorem fRun_wild {a : Int} {l r : List R3} (h : fRun [a] l = some r) : fRun [-1] l = some r := by
  cases l with
  | nil => rw [fRun_none] at h; cases h
  | cons x l =>
    by_cases hh : (a < 0 ∨ x.b = a) ∧ fOkN x = true
    · rw [fRun_cons hh] at h; rw [fRun_cons ⟨.inl (by decide), hh.2⟩]; exact h
    · rw [fRun_bad hh] at h; cases h
theorem fRun_one {a : Int} {st : List Int} {l r : List R3} (h : fRun (a :: st) l = some r) : endL l ≤ l.length ∧ 0 < endL l ∧ tPosAt fMany 1 0 l = (endL l : Int) ∧ fRun [a] l = some (l.drop (endL l)) ∧ fRun [a] (l.take (endL l)) = some [] ∧ fRun st (l.drop (endL l)) = some r := by
  rw [show a :: st = [a] ++ st from rfl, fRun_app] at h
  cases h1 : fRun [a] l with
  | none => rw [h1] at h; cases h
  | some r1 =>
    rw [h1] at h
    obtain ⟨q, g1, g2, g3, g4⟩ := fRun_end l _ _ h1
    have hq : endL l = q := by unfold endL; rw [show ([a] : List Int).length = 1 from rfl] at g2; rw [g2]; simp
    obtain ⟨q2, s1, s2, s3⟩ := fRun_suffix l _ _ h1
    rw [hq]
    refine ⟨g1, ?_, g2, by rw [g3], g4, by rw [← g3]; exact h⟩
    rcases Nat.eq_zero_or_pos q with h0 | h0
    · subst h0
      rw [List.take_zero, fRun_none] at g4; cases g4
    · exact h0
/-- Each part of a row has the arity that is asked of it. -/
theorem cut_run : ∀ (st : List Int) (l : List R3), fRun st l = some [] → ((cut st.length l).map List.length).sum = l.length ∧ ∀ (i : Nat) (a : Int) (p : List R3), st[i]? = some a → (cut st.length l)[i]? = some p → fRun [a] p = some [] ∧ p.length ≤ l.length
  | [], l, h => by
    rw [fRun_nil] at h; injection h with h; subst h
    exact ⟨rfl, by simp⟩
  | a :: st, l, h => by
    obtain ⟨h1, h2, h3, h4, h5, h6⟩ := fRun_one h
    obtain ⟨i1, i2⟩ := cut_run st _ h6
    rw [List.length_drop] at i1 i2
    rw [List.length_cons, cut]
    refine ⟨by rw [List.map_cons, List.sum_cons, i1, List.length_take]; omega, fun i b p hb hp => ?_⟩
    cases i with
    | zero => simp at hb hp; subst hb hp; exact ⟨h5, by rw [List.length_take]; omega⟩
    | succ i =>
      rw [List.getElem?_cons_succ] at hb hp
      obtain ⟨j1, j2⟩ := i2 i b p hb hp
      exact ⟨j1, by omega⟩

/-- The loop program of a function for some variables, into one, with free ones from a number on. -/
def lpF : Nat → List R3 → List Int → Int → Int → List R3
  | 0, _, _, _, _ => []
  | _ + 1, [], _, _, _ => []
  | N + 1, x :: l, xs, out, v =>
    if x.a = 0 then [⟨0, out, 0⟩]
    else if x.a = 1 then [⟨2, out, xs.getD 0 0⟩, ⟨1, out, 0⟩]
    else if x.a = 2 then [⟨2, out, xs.getD x.c.toNat 0⟩]
    else if x.a = 3 then ((List.range x.c.toNat).flatMap fun t => lpF N ((cut (fMany x) l).getD (t + 1) []) xs (v + (t : Int)) (v + x.c)) ++ lpF N ((cut (fMany x) l).getD 0 []) ((List.range x.c.toNat).map fun t : Nat => v + (t : Int)) out (v + x.c)
    else if x.a = 4 then
      lpF N ((cut (fMany x) l).getD 0 []) (xs.drop 1) v (v + 3) ++ (⟨0, v + 1, 0⟩ :: ⟨3, xs.getD 0 0, ((lpF N ((cut (fMany x) l).getD 1 []) ((v + 1) :: v :: xs.drop 1) (v + 2) (v + 3) ++ ([⟨2, v, v + 2⟩, ⟨1, v + 1, 0⟩] : List R3)).length : Nat)⟩ ::
        ((lpF N ((cut (fMany x) l).getD 1 []) ((v + 1) :: v :: xs.drop 1) (v + 2) (v + 3) ++ ([⟨2, v, v + 2⟩, ⟨1, v + 1, 0⟩] : List R3)) ++ [⟨2, out, v⟩]))
    else
      ⟨0, v, 0⟩ :: ⟨0, v + 1, 0⟩ :: ⟨1, v + 1, 0⟩ :: ⟨4, v + 1, (((⟨2, v + 2, v⟩ : R3) :: (lpF N ((cut (fMany x) l).getD 0 []) (v :: xs) (v + 1) (v + 3) ++ [⟨1, v, 0⟩])).length : Nat)⟩ ::
        (((⟨2, v + 2, v⟩ : R3) :: (lpF N ((cut (fMany x) l).getD 0 []) (v :: xs) (v + 1) (v + 3) ++ [⟨1, v, 0⟩])) ++ [⟨2, out, v + 2⟩])
section
variable {N : Nat} {x : R3} {l : List R3} {xs : List Int} {out v : Int}
theorem lp0 (h : x.a = 0) : lpF (N + 1) (x :: l) xs out v = [⟨0, out, 0⟩] := by rw [lpF, if_pos h]
theorem lp1 (h : x.a = 1) : lpF (N + 1) (x :: l) xs out v = [⟨2, out, xs.getD 0 0⟩, ⟨1, out, 0⟩] := by rw [lpF, if_neg (by omega), if_pos h]
theorem lp2 (h : x.a = 2) : lpF (N + 1) (x :: l) xs out v = [⟨2, out, xs.getD x.c.toNat 0⟩] := by rw [lpF, if_neg (by omega), if_neg (by omega), if_pos h]
/-- The commands of the first t inner functions. -/
def inn (N : Nat) (ps : List (List R3)) (xs : List Int) (v f : Int) (t : Nat) : List R3 := (List.range t).flatMap fun t => lpF N (ps.getD (t + 1) []) xs (v + (t : Int)) f
def vars (v : Int) (t : Nat) : List Int := (List.range t).map fun t : Nat => v + (t : Int)
theorem inn_zero (N : Nat) (ps : List (List R3)) (xs : List Int) (v f : Int) : inn N ps xs v f 0 = [] := rfl
theorem inn_succ (N : Nat) (ps : List (List R3)) (xs : List Int) (v f : Int) (t : Nat) : inn N ps xs v f (t + 1) = inn N ps xs v f t ++ lpF N (ps.getD (t + 1) []) xs (v + (t : Int)) f := by
  unfold inn; rw [List.range_succ, List.flatMap_append]; simp
theorem vars_succ (v : Int) (t : Nat) : vars v (t + 1) = vars v t ++ [v + (t : Int)] := by unfold vars; rw [List.range_succ, List.map_append]; rfl
theorem vars_len (v : Int) (t : Nat) : (vars v t).length = t := by simp [vars]
theorem lp3 (h : x.a = 3) {k : Nat} (hk : x.c = (k : Int)) : lpF (N + 1) (x :: l) xs out v = inn N (cut (fMany x) l) xs v (v + (k : Int)) k ++ lpF N ((cut (fMany x) l).getD 0 []) (vars v k) out (v + (k : Int)) := by
  rw [lpF, if_neg (by omega), if_neg (by omega), if_neg (by omega), if_pos h, hk]
  simp [inn, vars]
theorem lp4 (h : x.a = 4) {p q : List R3} (hp : (cut (fMany x) l).getD 0 [] = p) (hq : (cut (fMany x) l).getD 1 [] = q) : lpF (N + 1) (x :: l) xs out v =
    lpF N p (xs.drop 1) v (v + 3) ++ (⟨0, v + 1, 0⟩ :: ⟨3, xs.getD 0 0, ((lpF N q ((v + 1) :: v :: xs.drop 1) (v + 2) (v + 3) ++ ([⟨2, v, v + 2⟩, ⟨1, v + 1, 0⟩] : List R3)).length : Nat)⟩ ::
        ((lpF N q ((v + 1) :: v :: xs.drop 1) (v + 2) (v + 3) ++ ([⟨2, v, v + 2⟩, ⟨1, v + 1, 0⟩] : List R3)) ++ [⟨2, out, v⟩])) := by
  subst hp hq
  rw [lpF, if_neg (by omega), if_neg (by omega), if_neg (by omega), if_neg (by omega), if_pos h]
theorem lp5 (h : x.a = 5) {p : List R3} (hp : (cut (fMany x) l).getD 0 [] = p) : lpF (N + 1) (x :: l) xs out v =
    ⟨0, v, 0⟩ :: ⟨0, v + 1, 0⟩ :: ⟨1, v + 1, 0⟩ :: ⟨4, v + 1, (((⟨2, v + 2, v⟩ : R3) :: (lpF N p (v :: xs) (v + 1) (v + 3) ++ [⟨1, v, 0⟩])).length : Nat)⟩ ::
        (((⟨2, v + 2, v⟩ : R3) :: (lpF N p (v :: xs) (v + 1) (v + 3) ++ [⟨1, v, 0⟩])) ++ [⟨2, out, v + 2⟩]) := by
  subst hp
  rw [lpF, if_neg (by omega), if_neg (by omega), if_neg (by omega), if_neg (by omega), if_neg (by omega)]
end
/-- The parts of a function that is valid. -/
theorem parts_of {x : R3} {l : List R3} {a : Int} (h : fRun [a] (x :: l) = some []) : fOkN x = true ∧ (a < 0 ∨ x.b = a) ∧ fRun (fFols x) l = some [] := by
  by_cases hh : (a < 0 ∨ x.b = a) ∧ fOkN x = true
  · rw [fRun_cons hh, List.append_nil] at h; exact ⟨hh.2, hh.1, h⟩
  · rw [fRun_bad hh] at h; cases h
theorem part_at {x : R3} {l : List R3} (hok : fOkN x = true) (h : fRun (fFols x) l = some []) {i : Nat} {a : Int} (ha : (fFols x)[i]? = some a) : ∃ p, (cut (fMany x) l)[i]? = some p ∧ (cut (fMany x) l).getD i [] = p ∧ fRun [a] p = some [] ∧ p.length ≤ l.length := by
  have hlen := fFols_len hok
  obtain ⟨h1, h2⟩ := cut_run _ _ h
  rw [hlen] at h1 h2
  have hi : i < (cut (fMany x) l).length := by rw [cut_len, ← hlen]; exact (List.getElem?_eq_some_iff.1 ha).1
  have hp : (cut (fMany x) l)[i]? = some ((cut (fMany x) l)[i]) := List.getElem?_eq_getElem hi
  obtain ⟨h3, h4⟩ := h2 i a _ ha hp
  exact ⟨_, hp, by rw [List.getD_eq_getElem?_getD, hp]; rfl, h3, h4⟩
theorem sum_two {p q : Nat} {ls : List Nat} (h0 : ls[0]? = some p) (h1 : ls[1]? = some q) : p + q ≤ ls.sum := by
  match ls, h0, h1 with
  | a :: b :: r, h0, h1 => simp at h0 h1; subst h0 h1; simp only [List.sum_cons]; omega
theorem inn_len (N : Nat) (ps : List (List R3)) (xs : List Int) (v f : Int) (hb : ∀ (p : List R3) (xs : List Int) (o u : Int), (lpF N p xs o u).length ≤ 8 * p.length) : ∀ t : Nat, (inn N ps xs v f t).length ≤ 8 * ((List.range t).map fun i => (ps.getD (i + 1) []).length).sum
  | 0 => by rw [inn_zero]; simp
  | t + 1 => by
    rw [inn_succ, List.length_append, List.range_succ, List.map_append, List.sum_append]
    have h1 := inn_len N ps xs v f hb t
    have h2 := hb (ps.getD (t + 1) []) xs (v + (t : Int)) f
    simp only [List.map_cons, List.map_nil, List.sum_cons, List.sum_nil]
    omega
theorem sum_tail : ∀ (ps : List (List R3)) (t : Nat), ((List.range t).map fun i => (ps.getD i []).length).sum ≤ (ps.map List.length).sum
  | [], t => by
    have : ((List.range t).map fun i => (([] : List (List R3)).getD i []).length) = (List.range t).map fun _ => 0 := by simp
    rw [this]
    induction t with
    | zero => simp
    | succ t ih => rw [List.range_succ, List.map_append, List.sum_append]; simpa using ih (by simp)
  | p :: ps, 0 => by simp
  | p :: ps, t + 1 => by
    rw [List.range_succ_eq_map, List.map_cons, List.sum_cons, List.map_map, List.map_cons, List.sum_cons]
    have := sum_tail ps t
    have e : ((fun i => ((p :: ps).getD i []).length) ∘ Nat.succ) = fun i => (ps.getD i []).length := rfl
    rw [e]
    have e2 : ((p :: ps).getD 0 []).length = p.length := rfl
    rw [e2]
    omega
theorem cut_sum : ∀ (m : Nat) (l : List R3), ((cut m l).map List.length).sum ≤ l.length
  | 0, l => by simp [cut]
  | m + 1, l => by
    rw [cut, List.map_cons, List.sum_cons]
    have := cut_sum m (l.drop (endL l))
    rw [List.length_drop] at this
    rw [List.length_take]
    omega
theorem lpF_len (N : Nat) : ∀ (p : List R3) (xs : List Int) (o u : Int), (lpF N p xs o u).length ≤ 8 * p.length := by
  induction N with
  | zero => intro p xs o u; simp [lpF]
  | succ N ih =>
    intro p xs o u
    cases p with
    | nil => simp [lpF]
    | cons x l =>
      have hs := cut_sum (fMany x) l
      have hd : ∀ i, ((cut (fMany x) l).getD i []).length ≤ l.length := by
        intro i
        have := sum_tail (cut (fMany x) l) (i + 1)
        rw [List.range_succ, List.map_append, List.sum_append] at this
        simp only [List.map_cons, List.map_nil, List.sum_cons, List.sum_nil] at this
        omega
      have h2 : ((cut (fMany x) l).getD 0 []).length + ((cut (fMany x) l).getD 1 []).length ≤ l.length := by
        have := sum_tail (cut (fMany x) l) 2
        simp only [List.range_succ, List.range_zero, List.nil_append, List.map_append, List.map_cons, List.map_nil, List.sum_append, List.sum_cons, List.sum_nil] at this
        omega
      rw [lpF]
      split
      · simp; omega
      · split
        · simp; omega
        · split
          · simp; omega
          · split
            · have h3 := inn_len N (cut (fMany x) l) xs u (u + x.c) ih x.c.toNat
              have h4 := ih ((cut (fMany x) l).getD 0 []) (vars u x.c.toNat) o (u + x.c)
              have h5 := sum_tail (cut (fMany x) l) (x.c.toNat + 1)
              rw [List.range_succ_eq_map, List.map_cons, List.sum_cons, List.map_map] at h5
              have e : ((fun i => ((cut (fMany x) l).getD i []).length) ∘ Nat.succ) = fun i => ((cut (fMany x) l).getD (i + 1) []).length := rfl
              rw [e] at h5
              unfold inn at h3
              unfold vars at h4
              rw [List.length_append, List.length_cons]
              omega
            · split
              · have h3 := ih ((cut (fMany x) l).getD 0 []) (xs.drop 1) u (u + 3)
                have h4 := ih ((cut (fMany x) l).getD 1 []) ((u + 1) :: u :: xs.drop 1) (u + 2) (u + 3)
                simp only [List.length_append, List.length_cons, List.length_nil]
                omega
              · have h3 := ih ((cut (fMany x) l).getD 0 []) (u :: xs) (u + 1) (u + 3)
                have h4 := hd 0
                simp only [List.length_append, List.length_cons, List.length_nil]
                omega
end Go.Proofs.YtjggkgdojhlhpaaGreat

/- Contracts of the laws' helpers on []Func: copy, compare, size, mark, look at the marks. For slices of at most 1048576 elements. -/
namespace Go.Proofs.YtjggkgdojhlhpaaGreat
open Go.RowKit
set_option linter.all false

theorem infoFunc : (Tryz.prog.info? 35).map (fun i => (i.zero, i.size, i.bytes)) = some (some (.agg #[.int .i64 0, .int .i64 0, .int .i64 0]), 3, 24) := by kernel_rfl

theorem toFunc_any (x : R3) (w : World) : Calls Tryz.prog 13 #[.agg #[.int .i64 x.a, .int .i64 x.b, .int .i64 x.c]] w fun e w' => e = .returned (.agg #[.int .i64 x.a, .int .i64 x.b, .int .i64 x.c]) ∧ Below w.heap.size w w' := by
  obtain ⟨a, b, c⟩ := x
  go_enter Tryz.func13, Tryz.ntmps13
  go_wp2
  refine bodyPost_ret (v := .agg #[.int .i64 a, .int .i64 b, .int .i64 c]) (by simp [results, Tryz.results13, go_sem]) rfl ⟨rfl, ?_⟩
  repeat (first | exact Below.refl _ _ | refine Below.setCell ?_ (by simp; try omega) _ | refine Below.alloc ?_ (by simp; try omega) _)

theorem eqFunc_any (x y : R3) (w : World) : Calls Tryz.prog 19 #[.agg #[.int .i64 x.a, .int .i64 x.b, .int .i64 x.c], .agg #[.int .i64 y.a, .int .i64 y.b, .int .i64 y.c]] w fun e w' => e = .returned (.bool (decide (x = y))) ∧ Below w.heap.size w w' := by
  obtain ⟨a, b, c⟩ := x
  obtain ⟨a', b', c'⟩ := y
  have h0 : Below w.heap.size w ((w.alloc (.cells #[.int .i64 a, .int .i64 b, .int .i64 c] 35)).alloc (.cells #[.int .i64 a', .int .i64 b', .int .i64 c'] 35)) := ((Below.refl _ _).alloc (Nat.le_refl _) _).alloc (by simp) _
  by_cases h1 : a = a'
  rotate_left
  · have e3 : (a != a') = true := by simpa using h1
    go_enter Tryz.func19, Tryz.ntmps19
    go_wp2
    go_ret
    exact ⟨ret_bool (by simp [h1]), h0⟩
  subst h1
  by_cases h2 : b = b'
  rotate_left
  · have e3 : (b != b') = true := by simpa using h2
    go_enter Tryz.func19, Tryz.ntmps19
    go_wp2
    go_ret
    exact ⟨ret_bool (by simp [h2]), h0⟩
  subst h2
  by_cases h3 : c = c'
  rotate_left
  · have e3 : (c != c') = true := by simpa using h3
    go_enter Tryz.func19, Tryz.ntmps19
    go_wp2
    go_ret
    exact ⟨ret_bool (by simp [h3]), h0⟩
  subst h3
  go_enter Tryz.func19, Tryz.ntmps19
  go_wp2
  go_ret
  exact ⟨ret_bool (by simp), h0⟩

theorem eqFunc_is (x y : R3) (v : Bool) (h : decide (x = y) = v) (w : World) : Calls Tryz.prog 19 #[.agg #[.int .i64 x.a, .int .i64 x.b, .int .i64 x.c], .agg #[.int .i64 y.a, .int .i64 y.b, .int .i64 y.c]] w fun e w' => e = .returned (.bool v) ∧ Below w.heap.size w w' := by
  subst h; exact eqFunc_any x y w

set_option maxHeartbeats 400000 in
theorem toFuncS_any (A : Option Addr) (n c : Nat) (xs : List R3) (w : World) (ha : Args 3 w A n (rows R3.vs xs)) (hn : n ≤ 1048576) :
    Calls Tryz.prog 6 #[.slice A n c] w fun e w' => e = .returned (.slice (some ⟨w.heap.size, 0, none⟩) n n) ∧
      w'.ownsRow w.heap.size 35 3 (.slice (some ⟨w.heap.size, 0, none⟩) n n) n (rows R3.vs xs) ∧ Below w.heap.size w w' := by
  have HL : Hid (xs.length = n) := by have := ha.1; rw [rows_len R3.vs_len] at this; unfold Hid; omega
  have hmk := fun W => run_make_rows (P := Tryz.prog) 27 35 _ 3 24 Tryz.underlying27 infoFunc .i64 .i64 n (by omega) (by omega) W
  simp only [Value.cells] at hmk
  obtain ⟨f0, hrow0⟩ := rowIs_mades w #[.int .i64 0, .int .i64 0, .int .i64 0] (n * 3) 35
  have hB0 : Below w.heap.size w (w.alloc (.cells (madeCells #[.int .i64 0, .int .i64 0, .int .i64 0] (n * 3)) 35)) := (Below.refl _ _).alloc (Nat.le_refl _) _
  go_enter Tryz.func6, Tryz.ntmps6
  go_wp2
  clear hmk
  go_loopw [4] (fun i wr => ∃ k : Nat, k ≤ n ∧ i = .int .i64 k ∧ RowUp wr w.heap.size 35 (n * 3) (rows R3.vs xs) (k * 3) ∧ Below w.heap.size w wr) (fun i _ => n - (intOf i).toNat)
  case atStart => exact ⟨0, Nat.zero_le _, rfl, by simpa using RowUp.zero hrow0 _, hB0⟩
  case round =>
    obtain ⟨k, hk, rfl, hrow, hB⟩ := hrel
    clear hrow0 hB0
    by_cases hlt : k < n
    · obtain ⟨b, off, rfl, hs⟩ := ha.sl hlt
      obtain ⟨x, HX⟩ := hget HL hlt
      obtain ⟨h0, h1, h2⟩ := (hs.below' hB).rec3 HX.out
      have hgl := hrow.lt
      go_wp2_with fail
      refine (toFunc_any x _).mono ?_
      rintro e w1 ⟨rfl, hb⟩
      have hr1 := hrow.below hb hgl
      obtain ⟨u0, hc0⟩ := hr1.cell (i := k * 3) (by omega)
      have fz0 := hr1.frozen (k * 3)
      obtain ⟨u1, hc1⟩ := hr1.cell (i := k * 3 + 1) (by omega)
      have fz1 := hr1.frozen (k * 3 + 1)
      obtain ⟨u2, hc2⟩ := hr1.cell (i := k * 3 + 2) (by omega)
      have fz2 := hr1.frozen (k * 3 + 2)
      have HR := Lib.hid (hr1.set3 HX.out)
      have HB := Lib.hid (below_set3 (k := k) (x := x) (below_step hB hb))
      clear hrow hB ha hs hb hr1 h0 h1 h2
      go_wp2_with fail
      go_roundw
      case rel => exact ⟨k + 1, by omega, by go_num, HR.out, HB.out⟩
      case measure => simp [intOf]; omega
    · go_wp2
      go_ret
      obtain rfl : k = n := by omega
      exact ⟨rfl, hrow.own (Nat.le_refl _) (by unfold maxLen; omega) ha.1, hB⟩

set_option maxRecDepth 100000 in
set_option maxHeartbeats 400000 in
theorem eqFuncS_any (A B : Option Addr) (n m c d : Nat) (xs ys : List R3) (w : World) (ha : Args 3 w A n (rows R3.vs xs)) (hb : Args 3 w B m (rows R3.vs ys)) (hn : n ≤ 4194304) (hm : m ≤ 4194304) :
    Calls Tryz.prog 9 #[.slice A n c, .slice B m d] w fun e w' => e = .returned (.bool (decide (xs = ys))) ∧ Below w.heap.size w w' := by
  have HA : Hid (xs.length = n) := by have := ha.1; rw [rows_len R3.vs_len] at this; unfold Hid; omega
  have HB : Hid (ys.length = m) := by have := hb.1; rw [rows_len R3.vs_len] at this; unfold Hid; omega
  by_cases hnm : n = m
  · subst hnm
    go_enter Tryz.func9, Tryz.ntmps9
    go_wp2
    go_loopw [5] (fun i wr => ∃ k : Nat, k ≤ n ∧ i = .int .i64 k ∧ Below w.heap.size w wr ∧ Hid (xs.take k = ys.take k)) (fun i _ => n - (intOf i).toNat)
    case atStart => exact ⟨0, Nat.zero_le _, rfl, Below.refl _ _, rfl⟩
    case round =>
      obtain ⟨k, hk, rfl, hB, HR⟩ := hrel
      by_cases hlt : k < n
      · obtain ⟨b1, o1, rfl, hs1⟩ := ha.sl hlt
        obtain ⟨b2, o2, rfl, hs2⟩ := hb.sl hlt
        obtain ⟨x, HX⟩ := hget HA hlt
        obtain ⟨y, HY⟩ := hget HB hlt
        obtain ⟨p0, p1, p2⟩ := (hs1.below' hB).rec3 HX.out
        obtain ⟨q0, q1, q2⟩ := (hs2.below' hB).rec3 HY.out
        clear hs1 hs2 ha hb
        by_cases e : x = y
        · have E := Lib.hid (decide_eq_true e)
          have E2 := Lib.hid e
          clear e
          go_wp2
          go_still_tail 8, (by kernel_rfl)
          change wpList _ _ _ _ _ wr.drew
          have hB2 := hB.drew
          clear p0 q0 p1 q1 p2 q2 hB
          generalize wr.drew = w2 at hB2 ⊢
          go_wp2_with fail
          refine (eqFunc_is x y true E.out _).mono ?_
          rintro e w3 ⟨rfl, hb3⟩
          go_wp2
          go_roundw
          case rel => exact ⟨k + 1, by omega, by go_num, below_step hB2 hb3, take_succ_eq HR.out HX.out HY.out E2.out⟩
          case measure => simp [intOf]; omega
        · have E := Lib.hid (decide_eq_false e)
          have HE := Lib.hid e
          clear e
          go_wp2
          go_still_tail 8, (by kernel_rfl)
          change wpList _ _ _ _ _ wr.drew
          have hB2 := hB.drew
          clear p0 q0 p1 q1 p2 q2 hB
          generalize wr.drew = w2 at hB2 ⊢
          go_wp2_with fail
          refine (eqFunc_is x y false E.out _).mono ?_
          rintro e w3 ⟨rfl, hb3⟩
          go_wp2
          go_ret
          exact ⟨ret_bool (by simp [ne_of_at HX.out HY.out HE.out]), below_step hB2 hb3⟩
      · go_wp2
        go_ret
        refine ⟨ret_bool ?_, hB⟩
        have h1 := HR.out
        have h2 := HA.out
        have h3 := HB.out
        rw [List.take_of_length_le (by omega), List.take_of_length_le (by omega)] at h1
        simp [h1]
  · have hne : ((n : Int) != (m : Int)) = true := by simp; omega
    go_enter Tryz.func9, Tryz.ntmps9
    go_wp2
    go_ret
    refine ⟨ret_bool ?_, Below.refl _ _⟩
    have h2 := HA.out
    have h3 := HB.out
    symm
    apply decide_eq_false
    rintro rfl
    omega

theorem szFuncS_any (A : Option Addr) (n c : Nat) (left : Int) (w : World) (h0 : 0 ≤ left) (h1 : left ≤ 1048576) (hn : n ≤ 9223372036854775807) :
    Calls Tryz.prog 4 #[.slice A n c, .int .i64 left] w fun e w' => e = .returned (.int .i64 (if (n : Int) ≤ left then left - n else -1)) ∧ w = w' := by
  by_cases h : (n : Int) ≤ left
  · have h' : ¬ left - (n : Int) < 0 := by omega
    go_enter Tryz.func4, Tryz.ntmps4
    go_wp2
    go_ret
    exact ⟨ret_int (by first | rfl | rw [if_pos h]), rfl⟩
  · have h' : left - (n : Int) < 0 := by omega
    go_enter Tryz.func4, Tryz.ntmps4
    go_wp2
    go_ret
    exact ⟨ret_int (by first | rfl | rw [if_neg h]), rfl⟩

theorem szFuncS_yes (A : Option Addr) (n c : Nat) (left : Int) (w : World) (h0 : (n : Int) ≤ left) (h1 : left ≤ 1048576) :
    Calls Tryz.prog 4 #[.slice A n c, .int .i64 left] w fun e w' => e = .returned (.int .i64 (left - n)) ∧ w = w' := by
  have h := szFuncS_any A n c left w (by omega) h1 (by omega)
  rw [if_pos h0] at h; exact h

theorem szFuncS_no (A : Option Addr) (n c : Nat) (left : Int) (w : World) (h0 : 0 ≤ left) (h : left < (n : Int)) (h1 : left ≤ 1048576) (hn : n ≤ 9223372036854775807) :
    Calls Tryz.prog 4 #[.slice A n c, .int .i64 left] w fun e w' => e = .returned (.int .i64 (-1)) ∧ w = w' := by
  have h := szFuncS_any A n c left w h0 h1 hn
  rw [if_neg (by omega)] at h; exact h

theorem szFuncS_is (A : Option Addr) (n c left r : Nat) (w : World) (h : r + n = left) (h1 : left ≤ 1048576) :
    Calls Tryz.prog 4 #[.slice A n c, .int .i64 left] w fun e w' => e = .returned (.int .i64 r) ∧ w = w' := by
  have h2 := szFuncS_yes A n c left w (by omega) (by omega)
  rw [show (left : Int) - n = r by omega] at h2; exact h2

theorem szFuncS_not (A : Option Addr) (n c left : Nat) (w : World) (h : left < n) (h1 : left ≤ 1048576) (hn : n ≤ 9223372036854775807) :
    Calls Tryz.prog 4 #[.slice A n c, .int .i64 left] w fun e w' => e = .returned (.int .i64 (-1)) ∧ w = w' :=
  szFuncS_no A n c left w (by omega) (by omega) (by omega) hn

end Go.Proofs.YtjggkgdojhlhpaaGreat

/- One node of a recursive function: validNode and the reference's l11Many, l11Node. -/
namespace Go.Proofs.YtjggkgdojhlhpaaGreat
open Go.RowKit
set_option linter.all false

/-- Three cells that hold a record. -/
def At3 (w : World) (b o : Nat) (x : R3) : Prop := w.cell? ⟨b, o, none⟩ = some (.int .i64 x.a) ∧ w.cell? ⟨b, o + 1, none⟩ = some (.int .i64 x.b) ∧ w.cell? ⟨b, o + 2, none⟩ = some (.int .i64 x.c)
theorem At3.of {w : World} {b off : Nat} {xs : List R3} (h : Sl w b off (rows R3.vs xs)) {k : Nat} {x : R3} (hx : xs[k]? = some x) : At3 w b (off + k * 3) x := h.rec3 hx

set_option maxRecDepth 100000 in
theorem validNode0 (b c : Int) (v : Bool) (h : fOkN ⟨0, b, c⟩ = v) (w : World) : Calls Tryz.prog 76 #[.agg #[.int .i64 0, .int .i64 b, .int .i64 c]] w fun e w' => e = .returned (.bool v) ∧ Below w.heap.size w w' := by
  have h0 : Below w.heap.size w (w.alloc (.cells #[.int .i64 0, .int .i64 b, .int .i64 c] 35)) := laid_below _ _
  rw [fOkN_0 rfl] at h
  simp only at h
  rcases Bool.eq_false_or_eq_true (inB b 0 4) with h1 | h1
  rotate_left
  · have H0 := Lib.hid h1
    have HV : Hid (false = v) := by unfold Hid; rw [← h, h1]; first | rfl | simp
    clear h h1
    go_enter Tryz.func76, Tryz.ntmps76
    go_wp2_with fail
    refine (within_is _ _ _ false H0.out _).mono ?_
    rintro e w1 ⟨rfl, rfl⟩
    go_wp2
    go_ret
    exact ⟨ret_bool HV.out, h0⟩
  have H0 := Lib.hid h1
  rw [h1] at h
  clear h1
  by_cases g1 : c = 0
  rotate_left
  · have e1 : (c == 0) = false := by simpa using g1
    have HV : Hid (false = v) := by unfold Hid; rw [← h]; simp [g1]
    clear h g1
    go_enter Tryz.func76, Tryz.ntmps76
    go_wp2_with fail
    refine (within_is _ _ _ true H0.out _).mono ?_
    rintro e w1 ⟨rfl, rfl⟩
    go_wp2
    go_ret
    exact ⟨ret_bool HV.out, h0⟩
  subst g1
  have H1 : Hid (True) := trivial
  have HV : Hid (true = v) := by unfold Hid; rw [← h]; first | rfl | simp [H0.out, H1.out] | simp
  clear h
  go_enter Tryz.func76, Tryz.ntmps76
  go_wp2_with fail
  refine (within_is _ _ _ true H0.out _).mono ?_
  rintro e w1 ⟨rfl, rfl⟩
  go_wp2
  go_ret
  exact ⟨ret_bool HV.out, h0⟩

set_option maxRecDepth 100000 in
theorem validNode1 (b c : Int) (v : Bool) (h : fOkN ⟨1, b, c⟩ = v) (w : World) : Calls Tryz.prog 76 #[.agg #[.int .i64 1, .int .i64 b, .int .i64 c]] w fun e w' => e = .returned (.bool v) ∧ Below w.heap.size w w' := by
  have h0 : Below w.heap.size w (w.alloc (.cells #[.int .i64 1, .int .i64 b, .int .i64 c] 35)) := laid_below _ _
  rw [fOkN_1 rfl] at h
  simp only at h
  by_cases g0 : b = 1
  rotate_left
  · have e0 : (b == 1) = false := by simpa using g0
    have HV : Hid (false = v) := by unfold Hid; rw [← h]; simp [g0]
    clear h g0
    go_enter Tryz.func76, Tryz.ntmps76
    go_wp2
    go_ret
    exact ⟨ret_bool HV.out, h0⟩
  subst g0
  have H0 : Hid (True) := trivial
  by_cases g1 : c = 0
  rotate_left
  · have e1 : (c == 0) = false := by simpa using g1
    have HV : Hid (false = v) := by unfold Hid; rw [← h]; simp [g1]
    clear h g1
    go_enter Tryz.func76, Tryz.ntmps76
    go_wp2
    go_ret
    exact ⟨ret_bool HV.out, h0⟩
  subst g1
  have H1 : Hid (True) := trivial
  have HV : Hid (true = v) := by unfold Hid; rw [← h]; first | rfl | simp [H0.out, H1.out] | simp
  clear h
  go_enter Tryz.func76, Tryz.ntmps76
  go_wp2
  go_ret
  exact ⟨ret_bool HV.out, h0⟩

set_option maxRecDepth 100000 in
theorem validNode2 (b c : Int) (v : Bool) (h : fOkN ⟨2, b, c⟩ = v) (w : World) : Calls Tryz.prog 76 #[.agg #[.int .i64 2, .int .i64 b, .int .i64 c]] w fun e w' => e = .returned (.bool v) ∧ Below w.heap.size w w' := by
  have h0 : Below w.heap.size w (w.alloc (.cells #[.int .i64 2, .int .i64 b, .int .i64 c] 35)) := laid_below _ _
  rw [fOkN_2 rfl] at h
  simp only at h
  rcases Bool.eq_false_or_eq_true (inB b 1 4) with h1 | h1
  rotate_left
  · have H0 := Lib.hid h1
    have HV : Hid (false = v) := by unfold Hid; rw [← h, h1]; first | rfl | simp
    clear h h1
    go_enter Tryz.func76, Tryz.ntmps76
    go_wp2_with fail
    refine (within_is _ _ _ false H0.out _).mono ?_
    rintro e w1 ⟨rfl, rfl⟩
    go_wp2
    go_ret
    exact ⟨ret_bool HV.out, h0⟩
  have H0 := Lib.hid h1
  rw [h1] at h
  clear h1
  have hb1 : 1 ≤ b := ((inB_iff _ _ _).1 H0.out).1
  have hb4 : b ≤ 4 := ((inB_iff _ _ _).1 H0.out).2
  rcases Bool.eq_false_or_eq_true (inB c 0 (b - 1)) with h2 | h2
  rotate_left
  · have H1 := Lib.hid h2
    have HV : Hid (false = v) := by unfold Hid; rw [← h, h2]; first | rfl | simp
    clear h h2
    go_enter Tryz.func76, Tryz.ntmps76
    go_wp2_with fail
    refine (within_is _ _ _ true H0.out _).mono ?_
    rintro e w1 ⟨rfl, rfl⟩
    go_wp2_with fail
    refine (within_is _ _ _ false H1.out _).mono ?_
    rintro e w2 ⟨rfl, rfl⟩
    go_wp2
    go_ret
    exact ⟨ret_bool HV.out, h0⟩
  have H1 := Lib.hid h2
  rw [h2] at h
  clear h2
  have HV : Hid (true = v) := by unfold Hid; rw [← h]; first | rfl | simp [H0.out, H1.out] | simp
  clear h
  go_enter Tryz.func76, Tryz.ntmps76
  go_wp2_with fail
  refine (within_is _ _ _ true H0.out _).mono ?_
  rintro e w1 ⟨rfl, rfl⟩
  go_wp2_with fail
  refine (within_is _ _ _ true H1.out _).mono ?_
  rintro e w2 ⟨rfl, rfl⟩
  go_wp2
  go_ret
  exact ⟨ret_bool HV.out, h0⟩

set_option maxRecDepth 100000 in
theorem validNode3 (b c : Int) (v : Bool) (h : fOkN ⟨3, b, c⟩ = v) (w : World) : Calls Tryz.prog 76 #[.agg #[.int .i64 3, .int .i64 b, .int .i64 c]] w fun e w' => e = .returned (.bool v) ∧ Below w.heap.size w w' := by
  have h0 : Below w.heap.size w (w.alloc (.cells #[.int .i64 3, .int .i64 b, .int .i64 c] 35)) := laid_below _ _
  rw [fOkN_3 rfl] at h
  simp only at h
  rcases Bool.eq_false_or_eq_true (inB b 0 4) with h1 | h1
  rotate_left
  · have H0 := Lib.hid h1
    have HV : Hid (false = v) := by unfold Hid; rw [← h, h1]; first | rfl | simp
    clear h h1
    go_enter Tryz.func76, Tryz.ntmps76
    go_wp2_with fail
    refine (within_is _ _ _ false H0.out _).mono ?_
    rintro e w1 ⟨rfl, rfl⟩
    go_wp2
    go_ret
    exact ⟨ret_bool HV.out, h0⟩
  have H0 := Lib.hid h1
  rw [h1] at h
  clear h1
  rcases Bool.eq_false_or_eq_true (inB c 1 4) with h2 | h2
  rotate_left
  · have H1 := Lib.hid h2
    have HV : Hid (false = v) := by unfold Hid; rw [← h, h2]; first | rfl | simp
    clear h h2
    go_enter Tryz.func76, Tryz.ntmps76
    go_wp2_with fail
    refine (within_is _ _ _ true H0.out _).mono ?_
    rintro e w1 ⟨rfl, rfl⟩
    go_wp2_with fail
    refine (within_is _ _ _ false H1.out _).mono ?_
    rintro e w2 ⟨rfl, rfl⟩
    go_wp2
    go_ret
    exact ⟨ret_bool HV.out, h0⟩
  have H1 := Lib.hid h2
  rw [h2] at h
  clear h2
  have HV : Hid (true = v) := by unfold Hid; rw [← h]; first | rfl | simp [H0.out, H1.out] | simp
  clear h
  go_enter Tryz.func76, Tryz.ntmps76
  go_wp2_with fail
  refine (within_is _ _ _ true H0.out _).mono ?_
  rintro e w1 ⟨rfl, rfl⟩
  go_wp2_with fail
  refine (within_is _ _ _ true H1.out _).mono ?_
  rintro e w2 ⟨rfl, rfl⟩
  go_wp2
  go_ret
  exact ⟨ret_bool HV.out, h0⟩

set_option maxRecDepth 100000 in
theorem validNode4 (b c : Int) (v : Bool) (h : fOkN ⟨4, b, c⟩ = v) (w : World) : Calls Tryz.prog 76 #[.agg #[.int .i64 4, .int .i64 b, .int .i64 c]] w fun e w' => e = .returned (.bool v) ∧ Below w.heap.size w w' := by
  have h0 : Below w.heap.size w (w.alloc (.cells #[.int .i64 4, .int .i64 b, .int .i64 c] 35)) := laid_below _ _
  rw [fOkN_4 rfl] at h
  simp only at h
  rcases Bool.eq_false_or_eq_true (inB b 1 3) with h1 | h1
  rotate_left
  · have H0 := Lib.hid h1
    have HV : Hid (false = v) := by unfold Hid; rw [← h, h1]; first | rfl | simp
    clear h h1
    go_enter Tryz.func76, Tryz.ntmps76
    go_wp2_with fail
    refine (within_is _ _ _ false H0.out _).mono ?_
    rintro e w1 ⟨rfl, rfl⟩
    go_wp2
    go_ret
    exact ⟨ret_bool HV.out, h0⟩
  have H0 := Lib.hid h1
  rw [h1] at h
  clear h1
  by_cases g1 : c = 0
  rotate_left
  · have e1 : (c == 0) = false := by simpa using g1
    have HV : Hid (false = v) := by unfold Hid; rw [← h]; simp [g1]
    clear h g1
    go_enter Tryz.func76, Tryz.ntmps76
    go_wp2_with fail
    refine (within_is _ _ _ true H0.out _).mono ?_
    rintro e w1 ⟨rfl, rfl⟩
    go_wp2
    go_ret
    exact ⟨ret_bool HV.out, h0⟩
  subst g1
  have H1 : Hid (True) := trivial
  have HV : Hid (true = v) := by unfold Hid; rw [← h]; first | rfl | simp [H0.out, H1.out] | simp
  clear h
  go_enter Tryz.func76, Tryz.ntmps76
  go_wp2_with fail
  refine (within_is _ _ _ true H0.out _).mono ?_
  rintro e w1 ⟨rfl, rfl⟩
  go_wp2
  go_ret
  exact ⟨ret_bool HV.out, h0⟩

set_option maxRecDepth 100000 in
theorem validNode5 (b c : Int) (v : Bool) (h : fOkN ⟨5, b, c⟩ = v) (w : World) : Calls Tryz.prog 76 #[.agg #[.int .i64 5, .int .i64 b, .int .i64 c]] w fun e w' => e = .returned (.bool v) ∧ Below w.heap.size w w' := by
  have h0 : Below w.heap.size w (w.alloc (.cells #[.int .i64 5, .int .i64 b, .int .i64 c] 35)) := laid_below _ _
  rw [fOkN_5 rfl] at h
  simp only at h
  rcases Bool.eq_false_or_eq_true (inB b 0 3) with h1 | h1
  rotate_left
  · have H0 := Lib.hid h1
    have HV : Hid (false = v) := by unfold Hid; rw [← h, h1]; first | rfl | simp
    clear h h1
    go_enter Tryz.func76, Tryz.ntmps76
    go_wp2_with fail
    refine (within_is _ _ _ false H0.out _).mono ?_
    rintro e w1 ⟨rfl, rfl⟩
    go_wp2
    go_ret
    exact ⟨ret_bool HV.out, h0⟩
  have H0 := Lib.hid h1
  rw [h1] at h
  clear h1
  by_cases g1 : c = 0
  rotate_left
  · have e1 : (c == 0) = false := by simpa using g1
    have HV : Hid (false = v) := by unfold Hid; rw [← h]; simp [g1]
    clear h g1
    go_enter Tryz.func76, Tryz.ntmps76
    go_wp2_with fail
    refine (within_is _ _ _ true H0.out _).mono ?_
    rintro e w1 ⟨rfl, rfl⟩
    go_wp2
    go_ret
    exact ⟨ret_bool HV.out, h0⟩
  subst g1
  have H1 : Hid (True) := trivial
  have HV : Hid (true = v) := by unfold Hid; rw [← h]; first | rfl | simp [H0.out, H1.out] | simp
  clear h
  go_enter Tryz.func76, Tryz.ntmps76
  go_wp2_with fail
  refine (within_is _ _ _ true H0.out _).mono ?_
  rintro e w1 ⟨rfl, rfl⟩
  go_wp2
  go_ret
  exact ⟨ret_bool HV.out, h0⟩

set_option maxRecDepth 100000 in
theorem validNode6 (a b c : Int) (v : Bool) (h : fOkN ⟨a, b, c⟩ = v) (w : World) (a0 : a ≠ 0) (a1 : a ≠ 1) (a2 : a ≠ 2) (a3 : a ≠ 3) (a4 : a ≠ 4) (a5 : a ≠ 5) : Calls Tryz.prog 76 #[.agg #[.int .i64 a, .int .i64 b, .int .i64 c]] w fun e w' => e = .returned (.bool v) ∧ Below w.heap.size w w' := by
  have h0 : Below w.heap.size w (w.alloc (.cells #[.int .i64 a, .int .i64 b, .int .i64 c] 35)) := laid_below _ _
  have HV : Hid (false = v) := by unfold Hid; rw [← h, fOkN_6 a0 a1 a2 a3 a4 a5]
  have e0 : (a == 0) = false := by simpa using a0
  have e1 : (a == 1) = false := by simpa using a1
  have e2 : (a == 2) = false := by simpa using a2
  have e3 : (a == 3) = false := by simpa using a3
  have e4 : (a == 4) = false := by simpa using a4
  have e5 : (a == 5) = false := by simpa using a5
  clear h a0 a1 a2 a3 a4 a5
  go_enter Tryz.func76, Tryz.ntmps76
  go_wp2
  go_ret
  exact ⟨ret_bool HV.out, h0⟩

theorem validNode_is (x : R3) (v : Bool) (h : fOkN x = v) (w : World) : Calls Tryz.prog 76 #[.agg #[.int .i64 x.a, .int .i64 x.b, .int .i64 x.c]] w fun e w' => e = .returned (.bool v) ∧ Below w.heap.size w w' := by
  obtain ⟨a, b, c⟩ := x
  by_cases a0 : a = 0
  · subst a0; exact validNode0 b c v h w
  by_cases a1 : a = 1
  · subst a1; exact validNode1 b c v h w
  by_cases a2 : a = 2
  · subst a2; exact validNode2 b c v h w
  by_cases a3 : a = 3
  · subst a3; exact validNode3 b c v h w
  by_cases a4 : a = 4
  · subst a4; exact validNode4 b c v h w
  by_cases a5 : a = 5
  · subst a5; exact validNode5 b c v h w
  exact validNode6 a b c v h w a0 a1 a2 a3 a4 a5

set_option maxRecDepth 100000 in
theorem l11Node0 (b c : Int) (p o : Nat) (v : Bool) (h : fOkN ⟨0, b, c⟩ = v) (w : World) (hp : At3 w p o ⟨0, b, c⟩) : Calls Tryz.prog 69 #[.pointer (some ⟨p, o, none⟩)] w fun e w' => e = .returned (.bool v) ∧ Below w.heap.size w w' := by
  obtain ⟨p0, p1, p2⟩ := hp
  simp only at p0 p1 p2
  rw [fOkN_0 rfl] at h
  simp only at h
  rcases Bool.eq_false_or_eq_true (inB b 0 4) with h1 | h1
  rotate_left
  · have H0 := Lib.hid h1
    have HV : Hid (false = v) := by unfold Hid; rw [← h, h1]; first | rfl | simp
    clear h h1
    go_enter Tryz.func69, Tryz.ntmps69
    go_wp2_with fail
    refine (l00In_is _ _ _ false H0.out _).mono ?_
    rintro e w1 ⟨rfl, rfl⟩
    go_wp2
    go_ret
    exact ⟨ret_bool HV.out, Below.refl _ _⟩
  have H0 := Lib.hid h1
  rw [h1] at h
  clear h1
  by_cases g1 : c = 0
  rotate_left
  · have e1 : (c == 0) = false := by simpa using g1
    have HV : Hid (false = v) := by unfold Hid; rw [← h]; simp [g1]
    clear h g1
    go_enter Tryz.func69, Tryz.ntmps69
    go_wp2_with fail
    refine (l00In_is _ _ _ true H0.out _).mono ?_
    rintro e w1 ⟨rfl, rfl⟩
    go_wp2
    go_ret
    exact ⟨ret_bool HV.out, Below.refl _ _⟩
  subst g1
  have H1 : Hid (True) := trivial
  have HV : Hid (true = v) := by unfold Hid; rw [← h]; first | rfl | simp [H0.out, H1.out] | simp
  clear h
  go_enter Tryz.func69, Tryz.ntmps69
  go_wp2_with fail
  refine (l00In_is _ _ _ true H0.out _).mono ?_
  rintro e w1 ⟨rfl, rfl⟩
  go_wp2
  go_ret
  exact ⟨ret_bool HV.out, Below.refl _ _⟩

set_option maxRecDepth 100000 in
theorem l11Node1 (b c : Int) (p o : Nat) (v : Bool) (h : fOkN ⟨1, b, c⟩ = v) (w : World) (hp : At3 w p o ⟨1, b, c⟩) : Calls Tryz.prog 69 #[.pointer (some ⟨p, o, none⟩)] w fun e w' => e = .returned (.bool v) ∧ Below w.heap.size w w' := by
  obtain ⟨p0, p1, p2⟩ := hp
  simp only at p0 p1 p2
  rw [fOkN_1 rfl] at h
  simp only at h
  by_cases g0 : b = 1
  rotate_left
  · have e0 : (b == 1) = false := by simpa using g0
    have HV : Hid (false = v) := by unfold Hid; rw [← h]; simp [g0]
    clear h g0
    go_enter Tryz.func69, Tryz.ntmps69
    go_wp2
    go_ret
    exact ⟨ret_bool HV.out, Below.refl _ _⟩
  subst g0
  have H0 : Hid (True) := trivial
  by_cases g1 : c = 0
  rotate_left
  · have e1 : (c == 0) = false := by simpa using g1
    have HV : Hid (false = v) := by unfold Hid; rw [← h]; simp [g1]
    clear h g1
    go_enter Tryz.func69, Tryz.ntmps69
    go_wp2
    go_ret
    exact ⟨ret_bool HV.out, Below.refl _ _⟩
  subst g1
  have H1 : Hid (True) := trivial
  have HV : Hid (true = v) := by unfold Hid; rw [← h]; first | rfl | simp [H0.out, H1.out] | simp
  clear h
  go_enter Tryz.func69, Tryz.ntmps69
  go_wp2
  go_ret
  exact ⟨ret_bool HV.out, Below.refl _ _⟩

set_option maxRecDepth 100000 in
theorem l11Node2 (b c : Int) (p o : Nat) (v : Bool) (h : fOkN ⟨2, b, c⟩ = v) (w : World) (hp : At3 w p o ⟨2, b, c⟩) : Calls Tryz.prog 69 #[.pointer (some ⟨p, o, none⟩)] w fun e w' => e = .returned (.bool v) ∧ Below w.heap.size w w' := by
  obtain ⟨p0, p1, p2⟩ := hp
  simp only at p0 p1 p2
  rw [fOkN_2 rfl] at h
  simp only at h
  rcases Bool.eq_false_or_eq_true (inB b 1 4) with h1 | h1
  rotate_left
  · have H0 := Lib.hid h1
    have HV : Hid (false = v) := by unfold Hid; rw [← h, h1]; first | rfl | simp
    clear h h1
    go_enter Tryz.func69, Tryz.ntmps69
    go_wp2
    go_quiet ((go_at_call 36; exact quiet_eq (l00In_is _ _ _ _ (by first | exact H0.out) _)))
    go_wp2
    go_ret
    exact ⟨ret_bool HV.out, quiet_below rfl⟩
  have H0 := Lib.hid h1
  rw [h1] at h
  clear h1
  have hb1 : 1 ≤ b := ((inB_iff _ _ _).1 H0.out).1
  have hb4 : b ≤ 4 := ((inB_iff _ _ _).1 H0.out).2
  rcases Bool.eq_false_or_eq_true (inB c 0 (b - 1)) with h2 | h2
  rotate_left
  · have H1 := Lib.hid h2
    have HV : Hid (false = v) := by unfold Hid; rw [← h, h2]; first | rfl | simp
    clear h h2
    have w1 : IntKind.i64.wrap (b - 1) = b - 1 := IntWalk.i64_in _ (by omega)
    go_enter Tryz.func69, Tryz.ntmps69
    go_wp2
    go_quiet ((go_at_call 36; exact quiet_eq (l00In_is _ _ _ _ (by first | exact H0.out | exact H1.out) _)))
    go_wp2
    go_ret
    exact ⟨ret_bool HV.out, quiet_below rfl⟩
  have H1 := Lib.hid h2
  rw [h2] at h
  clear h2
  have HV : Hid (true = v) := by unfold Hid; rw [← h]; first | rfl | simp [H0.out, H1.out] | simp
  clear h
  have w1 : IntKind.i64.wrap (b - 1) = b - 1 := IntWalk.i64_in _ (by omega)
  go_enter Tryz.func69, Tryz.ntmps69
  go_wp2
  go_quiet ((go_at_call 36; exact quiet_eq (l00In_is _ _ _ _ (by first | exact H0.out | exact H1.out) _)))
  go_wp2
  go_ret
  exact ⟨ret_bool HV.out, quiet_below rfl⟩

set_option maxRecDepth 100000 in
theorem l11Node3 (b c : Int) (p o : Nat) (v : Bool) (h : fOkN ⟨3, b, c⟩ = v) (w : World) (hp : At3 w p o ⟨3, b, c⟩) : Calls Tryz.prog 69 #[.pointer (some ⟨p, o, none⟩)] w fun e w' => e = .returned (.bool v) ∧ Below w.heap.size w w' := by
  obtain ⟨p0, p1, p2⟩ := hp
  simp only at p0 p1 p2
  rw [fOkN_3 rfl] at h
  simp only at h
  rcases Bool.eq_false_or_eq_true (inB b 0 4) with h1 | h1
  rotate_left
  · have H0 := Lib.hid h1
    have HV : Hid (false = v) := by unfold Hid; rw [← h, h1]; first | rfl | simp
    clear h h1
    go_enter Tryz.func69, Tryz.ntmps69
    go_wp2_with fail
    refine (l00In_is _ _ _ false H0.out _).mono ?_
    rintro e w1 ⟨rfl, rfl⟩
    go_wp2
    go_ret
    exact ⟨ret_bool HV.out, Below.refl _ _⟩
  have H0 := Lib.hid h1
  rw [h1] at h
  clear h1
  rcases Bool.eq_false_or_eq_true (inB c 1 4) with h2 | h2
  rotate_left
  · have H1 := Lib.hid h2
    have HV : Hid (false = v) := by unfold Hid; rw [← h, h2]; first | rfl | simp
    clear h h2
    go_enter Tryz.func69, Tryz.ntmps69
    go_wp2_with fail
    refine (l00In_is _ _ _ true H0.out _).mono ?_
    rintro e w1 ⟨rfl, rfl⟩
    go_wp2_with fail
    refine (l00In_is _ _ _ false H1.out _).mono ?_
    rintro e w2 ⟨rfl, rfl⟩
    go_wp2
    go_ret
    exact ⟨ret_bool HV.out, Below.refl _ _⟩
  have H1 := Lib.hid h2
  rw [h2] at h
  clear h2
  have HV : Hid (true = v) := by unfold Hid; rw [← h]; first | rfl | simp [H0.out, H1.out] | simp
  clear h
  go_enter Tryz.func69, Tryz.ntmps69
  go_wp2_with fail
  refine (l00In_is _ _ _ true H0.out _).mono ?_
  rintro e w1 ⟨rfl, rfl⟩
  go_wp2_with fail
  refine (l00In_is _ _ _ true H1.out _).mono ?_
  rintro e w2 ⟨rfl, rfl⟩
  go_wp2
  go_ret
  exact ⟨ret_bool HV.out, Below.refl _ _⟩

set_option maxRecDepth 100000 in
theorem l11Node4 (b c : Int) (p o : Nat) (v : Bool) (h : fOkN ⟨4, b, c⟩ = v) (w : World) (hp : At3 w p o ⟨4, b, c⟩) : Calls Tryz.prog 69 #[.pointer (some ⟨p, o, none⟩)] w fun e w' => e = .returned (.bool v) ∧ Below w.heap.size w w' := by
  obtain ⟨p0, p1, p2⟩ := hp
  simp only at p0 p1 p2
  rw [fOkN_4 rfl] at h
  simp only at h
  rcases Bool.eq_false_or_eq_true (inB b 1 3) with h1 | h1
  rotate_left
  · have H0 := Lib.hid h1
    have HV : Hid (false = v) := by unfold Hid; rw [← h, h1]; first | rfl | simp
    clear h h1
    go_enter Tryz.func69, Tryz.ntmps69
    go_wp2_with fail
    refine (l00In_is _ _ _ false H0.out _).mono ?_
    rintro e w1 ⟨rfl, rfl⟩
    go_wp2
    go_ret
    exact ⟨ret_bool HV.out, Below.refl _ _⟩
  have H0 := Lib.hid h1
  rw [h1] at h
  clear h1
  by_cases g1 : c = 0
  rotate_left
  · have e1 : (c == 0) = false := by simpa using g1
    have HV : Hid (false = v) := by unfold Hid; rw [← h]; simp [g1]
    clear h g1
    go_enter Tryz.func69, Tryz.ntmps69
    go_wp2_with fail
    refine (l00In_is _ _ _ true H0.out _).mono ?_
    rintro e w1 ⟨rfl, rfl⟩
    go_wp2
    go_ret
    exact ⟨ret_bool HV.out, Below.refl _ _⟩
  subst g1
  have H1 : Hid (True) := trivial
  have HV : Hid (true = v) := by unfold Hid; rw [← h]; first | rfl | simp [H0.out, H1.out] | simp
  clear h
  go_enter Tryz.func69, Tryz.ntmps69
  go_wp2_with fail
  refine (l00In_is _ _ _ true H0.out _).mono ?_
  rintro e w1 ⟨rfl, rfl⟩
  go_wp2
  go_ret
  exact ⟨ret_bool HV.out, Below.refl _ _⟩

set_option maxRecDepth 100000 in
theorem l11Node5 (b c : Int) (p o : Nat) (v : Bool) (h : fOkN ⟨5, b, c⟩ = v) (w : World) (hp : At3 w p o ⟨5, b, c⟩) : Calls Tryz.prog 69 #[.pointer (some ⟨p, o, none⟩)] w fun e w' => e = .returned (.bool v) ∧ Below w.heap.size w w' := by
  obtain ⟨p0, p1, p2⟩ := hp
  simp only at p0 p1 p2
  rw [fOkN_5 rfl] at h
  simp only at h
  rcases Bool.eq_false_or_eq_true (inB b 0 3) with h1 | h1
  rotate_left
  · have H0 := Lib.hid h1
    have HV : Hid (false = v) := by unfold Hid; rw [← h, h1]; first | rfl | simp
    clear h h1
    go_enter Tryz.func69, Tryz.ntmps69
    go_wp2_with fail
    refine (l00In_is _ _ _ false H0.out _).mono ?_
    rintro e w1 ⟨rfl, rfl⟩
    go_wp2
    go_ret
    exact ⟨ret_bool HV.out, Below.refl _ _⟩
  have H0 := Lib.hid h1
  rw [h1] at h
  clear h1
  by_cases g1 : c = 0
  rotate_left
  · have e1 : (c == 0) = false := by simpa using g1
    have HV : Hid (false = v) := by unfold Hid; rw [← h]; simp [g1]
    clear h g1
    go_enter Tryz.func69, Tryz.ntmps69
    go_wp2_with fail
    refine (l00In_is _ _ _ true H0.out _).mono ?_
    rintro e w1 ⟨rfl, rfl⟩
    go_wp2
    go_ret
    exact ⟨ret_bool HV.out, Below.refl _ _⟩
  subst g1
  have H1 : Hid (True) := trivial
  have HV : Hid (true = v) := by unfold Hid; rw [← h]; first | rfl | simp [H0.out, H1.out] | simp
  clear h
  go_enter Tryz.func69, Tryz.ntmps69
  go_wp2_with fail
  refine (l00In_is _ _ _ true H0.out _).mono ?_
  rintro e w1 ⟨rfl, rfl⟩
  go_wp2
  go_ret
  exact ⟨ret_bool HV.out, Below.refl _ _⟩

set_option maxRecDepth 100000 in
theorem l11Node6 (a b c : Int) (p o : Nat) (v : Bool) (h : fOkN ⟨a, b, c⟩ = v) (w : World) (hp : At3 w p o ⟨a, b, c⟩) (a0 : a ≠ 0) (a1 : a ≠ 1) (a2 : a ≠ 2) (a3 : a ≠ 3) (a4 : a ≠ 4) (a5 : a ≠ 5) : Calls Tryz.prog 69 #[.pointer (some ⟨p, o, none⟩)] w fun e w' => e = .returned (.bool v) ∧ Below w.heap.size w w' := by
  obtain ⟨p0, p1, p2⟩ := hp
  simp only at p0 p1 p2
  have HV : Hid (false = v) := by unfold Hid; rw [← h, fOkN_6 a0 a1 a2 a3 a4 a5]
  have e0 : (a == 0) = false := by simpa using a0
  have e1 : (a == 1) = false := by simpa using a1
  have e2 : (a == 2) = false := by simpa using a2
  have e3 : (a == 3) = false := by simpa using a3
  have e4 : (a == 4) = false := by simpa using a4
  have e5 : (a == 5) = false := by simpa using a5
  clear h a0 a1 a2 a3 a4 a5
  go_enter Tryz.func69, Tryz.ntmps69
  go_wp2
  go_ret
  exact ⟨ret_bool HV.out, Below.refl _ _⟩

theorem l11Node_is (p o : Nat) (x : R3) (v : Bool) (h : fOkN x = v) (w : World) (hp : At3 w p o x) : Calls Tryz.prog 69 #[.pointer (some ⟨p, o, none⟩)] w fun e w' => e = .returned (.bool v) ∧ Below w.heap.size w w' := by
  obtain ⟨a, b, c⟩ := x
  by_cases a0 : a = 0
  · subst a0; exact l11Node0 b c p o v h w hp
  by_cases a1 : a = 1
  · subst a1; exact l11Node1 b c p o v h w hp
  by_cases a2 : a = 2
  · subst a2; exact l11Node2 b c p o v h w hp
  by_cases a3 : a = 3
  · subst a3; exact l11Node3 b c p o v h w hp
  by_cases a4 : a = 4
  · subst a4; exact l11Node4 b c p o v h w hp
  by_cases a5 : a = 5
  · subst a5; exact l11Node5 b c p o v h w hp
  exact l11Node6 a b c p o v h w hp a0 a1 a2 a3 a4 a5

set_option maxRecDepth 100000 in
theorem l11Many_any (p o : Nat) (x : R3) (hok : fOkN x = true) (w : World) (hp : At3 w p o x) : Calls Tryz.prog 70 #[.pointer (some ⟨p, o, none⟩)] w fun e w' => e = .returned (.int .i64 (fMany x : Nat)) ∧ w = w' := by
  have hx := (fOkN_iff x).1 hok
  obtain ⟨a, b, c⟩ := x
  obtain ⟨p0, p1, p2⟩ := hp
  simp only at *
  by_cases a3 : a = 3
  · subst a3
    have hc0 : 0 ≤ c := by omega
    have hc1 : c ≤ 4 := by omega
    have HE : Hid ((fMany ⟨3, b, c⟩ : Int) = c + 1) := by unfold Hid; rw [fMany_3 rfl]; simp only; omega
    clear hx hok
    go_enter Tryz.func70, Tryz.ntmps70
    go_wp2
    go_ret
    exact ⟨ret_int HE.out.symm, rfl⟩
  by_cases a4 : a = 4
  · subst a4
    clear hx hok a3
    go_enter Tryz.func70, Tryz.ntmps70
    go_wp2
    go_ret
    exact ⟨ret_int (by rw [fMany_4 rfl]; rfl), rfl⟩
  by_cases a5 : a = 5
  · subst a5
    clear hx hok a3 a4
    go_enter Tryz.func70, Tryz.ntmps70
    go_wp2
    go_ret
    exact ⟨ret_int (by rw [fMany_5 rfl]; rfl), rfl⟩
  have HE : Hid (fMany ⟨a, b, c⟩ = 0) := fMany_0 a3 a4 a5
  have e3 : (a == 3) = false := by simpa using a3
  have e4 : (a == 4) = false := by simpa using a4
  have e5 : (a == 5) = false := by simpa using a5
  clear hx hok a3 a4 a5
  go_enter Tryz.func70, Tryz.ntmps70
  go_wp2
  go_ret
  exact ⟨ret_int (by rw [HE.out]; rfl), rfl⟩
end Go.Proofs.YtjggkgdojhlhpaaGreat

/- Objects that a call made: what hangs on the blocks of an interval alone; rows whose cells are rows. Plain lemmas, no conditions. -/
namespace Go.Proofs.YtjggkgdojhlhpaaGreat
open Go.RowKit
set_option linter.all false

/-- Of the blocks that were there only those from lo up to hi may have turned. -/
structure Touch (lo hi : Nat) (w w' : World) : Prop where
  os : w'.os = w.os
  tape : w'.tape = w.tape
  output : w'.output = w.output
  size : w.heap.size ≤ w'.heap.size
  block : ∀ k, k < w.heap.size → (k < lo ∨ hi ≤ k) → w'.heap[k]? = w.heap[k]?
theorem Touch.refl (lo hi : Nat) (w : World) : Touch lo hi w w := ⟨rfl, rfl, rfl, Nat.le_refl _, fun _ _ _ => rfl⟩
theorem Touch.trans {lo hi : Nat} {a b c : World} (h : Touch lo hi a b) (k : Touch lo hi b c) : Touch lo hi a c :=
  ⟨k.os.trans h.os, k.tape.trans h.tape, k.output.trans h.output, Nat.le_trans h.size k.size, fun i hi hn => (k.block i (Nat.lt_of_lt_of_le hi h.size) hn).trans (h.block i hi hn)⟩
theorem Touch.of_grown {lo hi : Nat} {w w' : World} {row : Option Nat} (h : w.grownBy w' row) (hr : ∀ k, row = some k → lo ≤ k ∧ k < hi) : Touch lo hi w w' :=
  ⟨h.os, h.tape, h.output, h.size, fun k hk hn => h.block k hk fun e => by have := hr k e.symm; omega⟩
theorem Touch.of_below {lo hi : Nat} {w w' : World} (h : Below w.heap.size w w') : Touch lo hi w w' := ⟨h.os, h.tape, h.output, h.size, fun k hk _ => h.block k hk⟩
theorem Touch.below {lo hi : Nat} {w w' : World} (h : Touch lo hi w w') (hl : lo ≤ w.heap.size) : Below lo w w' := ⟨h.os, h.tape, h.output, h.size, fun k hk => h.block k (by omega) (.inl hk)⟩
theorem Touch.mono {lo hi lo' hi' : Nat} {w w' : World} (h : Touch lo hi w w') (h1 : lo' ≤ lo) (h2 : hi ≤ hi') : Touch lo' hi' w w' := ⟨h.os, h.tape, h.output, h.size, fun k hk hn => h.block k hk (by omega)⟩
theorem Touch.setCell {lo hi : Nat} {a w : World} (h : Touch lo hi a w) {p : Addr} (hp : lo ≤ p.block ∧ p.block < hi) (u : Value) : Touch lo hi a (w.setCell p u) :=
  h.trans ⟨rfl, rfl, rfl, by simp [World.setCell], fun k hk hn => Below.heap_setCell _ _ _ _ (by omega)⟩
theorem below_touch {w0 w w' : World} {lo hi : Nat} (h : Below w0.heap.size w0 w) (ht : Touch lo hi w w') (hl : w0.heap.size ≤ lo) : Below w0.heap.size w0 w' :=
  h.trans ⟨ht.os, ht.tape, ht.output, ht.size, fun k hk => ht.block k (Nat.lt_of_lt_of_le hk h.size) (.inl (by omega))⟩

/-- P hangs on the blocks from lo up to hi alone. -/
def Dep (lo hi : Nat) (P : World → Prop) : Prop := ∀ w w' : World, P w → (∀ k, lo ≤ k → k < hi → w'.heap[k]? = w.heap[k]?) → P w'
/-- An object whose blocks lie in an interval. -/
structure Held (lo hi : Nat) (P : World → Prop) (w : World) : Prop where
  le : hi ≤ w.heap.size
  is : P w
  dep : Dep lo hi P
section
variable {lo hi : Nat} {P Q : World → Prop} {w w' : World}
theorem Held.below (h : Held lo hi P w) (hb : Below w.heap.size w w') : Held lo hi P w' :=
  ⟨Nat.le_trans h.le hb.size, h.dep _ _ h.is fun k _ hk => hb.block k (Nat.lt_of_lt_of_le hk h.le), h.dep⟩
theorem Held.far {a b : Nat} (h : Held lo hi P w) (ht : Touch a b w w') (hd : hi ≤ a ∨ b ≤ lo) : Held lo hi P w' :=
  ⟨Nat.le_trans h.le ht.size, h.dep _ _ h.is fun k h1 h2 => ht.block k (Nat.lt_of_lt_of_le h2 h.le) (by omega), h.dep⟩
theorem Held.wide {lo' hi' : Nat} (h : Held lo hi P w) (h1 : lo' ≤ lo) (h2 : hi ≤ hi') (h3 : hi' ≤ w.heap.size) : Held lo' hi' P w :=
  ⟨h3, h.is, fun a b ha hk => h.dep a b ha fun k k1 k2 => hk k (by omega) (by omega)⟩
end
theorem own_dep {w : World} {lo hi : Nat} {e : TypeId} {size n : Nat} {v : Value} {xs : List Value} (hv : ∀ k, v.ownBlock = some k → lo ≤ k ∧ k < hi) : Dep lo hi (fun W => W.ownsRow lo e size v n xs) := by
  intro a b h hk
  refine ⟨h.1, ?_⟩
  rcases h.2 with h0 | ⟨g, cap, cur, rfl, hb, hg, r⟩
  · exact .inl h0
  · have := hv g rfl
    exact .inr ⟨g, cap, cur, rfl, hb, (hk g this.1 this.2).trans hg, r⟩
theorem own_held {w : World} {lo : Nat} {e : TypeId} {size n : Nat} {v : Value} {xs : List Value} (h : w.ownsRow lo e size v n xs) : Held lo w.heap.size (fun W => W.ownsRow lo e size v n xs) w :=
  ⟨Nat.le_refl _, h, own_dep (w := w) h.lt⟩
theorem own_blocks {lo hi : Nat} {w0 w : World} {e : TypeId} {size n : Nat} {v : Value} {xs : List Value} (h : w0.ownsRow lo e size v n xs) (hw : w0.heap.size ≤ hi) : ∀ k, v.ownBlock = some k → lo ≤ k ∧ k < hi := fun k hk => by have := h.lt k hk; omega

theorem own_addr0 {w : World} {base : Nat} {e : TypeId} {size n cap : Nat} {A : Option Addr} {xs : List Value} (h : w.ownsRow base e size (.slice A n cap) n xs) (hn : 0 < n) : ∃ g, A = some ⟨g, 0, none⟩ ∧ base ≤ g ∧ g < w.heap.size := by
  rcases h.2 with ⟨_, h0⟩ | ⟨g, cap', cur, hv, hb, hg, _⟩
  · omega
  · injection hv with h1 h2 h3
    exact ⟨g, h1, hb, heap_lt hg⟩

/-- Rows in the cells of a row: each owned, no two in one block. -/
structure Inn (s : Nat) (e : TypeId) (lo hi : Nat) (vs : List Value) (its : List (Nat × List Value)) (w : World) : Prop where
  len : vs.length = its.length
  own : ∀ (j : Nat) (v : Value) (it : Nat × List Value), vs[j]? = some v → its[j]? = some it → w.ownsRow lo e s v it.1 it.2
  top : ∀ (j : Nat) (v : Value) (k : Nat), vs[j]? = some v → v.ownBlock = some k → k < hi
  apart : ∀ (i j : Nat) (v u : Value), i < j → vs[i]? = some v → vs[j]? = some u → v.ownBlock = none ∨ v.ownBlock ≠ u.ownBlock
section
variable {s lo hi : Nat} {e : TypeId} {vs : List Value} {its : List (Nat × List Value)} {w w' : World}
theorem Inn.nil (s lo hi : Nat) (e : TypeId) (w : World) : Inn s e lo hi [] [] w := ⟨rfl, by simp, by simp, by simp⟩
theorem Inn.get (h : Inn s e lo hi vs its w) {j : Nat} (hj : j < its.length) : ∃ v it, vs[j]? = some v ∧ its[j]? = some it ∧ w.ownsRow lo e s v it.1 it.2 := by
  have h1 : vs[j]? = some (vs[j]'(by rw [h.len]; exact hj)) := List.getElem?_eq_getElem _
  have h2 : its[j]? = some its[j] := List.getElem?_eq_getElem _
  exact ⟨_, _, h1, h2, h.own _ _ _ h1 h2⟩
theorem Inn.dep (lo hi : Nat) (s : Nat) (e : TypeId) (vs : List Value) (its : List (Nat × List Value)) : Dep lo hi (Inn s e lo hi vs its) := by
  intro a b h hk
  refine ⟨h.len, fun j v it h1 h2 => ?_, h.top, h.apart⟩
  have ho := h.own j v it h1 h2
  exact own_dep (w := a) (fun k hk2 => ⟨(ho.lt k hk2).1, h.top j v k h1 hk2⟩) a b ho hk
theorem Inn.below (h : Inn s e lo hi vs its w) (hb : Below w.heap.size w w') : Inn s e lo hi vs its w' :=
  ⟨h.len, fun j v it h1 h2 => own_below' (h.own j v it h1 h2) hb, h.top, h.apart⟩
theorem Inn.wide {hi' : Nat} (h : Inn s e lo hi vs its w) (h2 : hi ≤ hi') : Inn s e lo hi' vs its w :=
  ⟨h.len, h.own, fun j v k h1 h3 => Nat.lt_of_lt_of_le (h.top j v k h1 h3) h2, h.apart⟩
end
theorem snoc_at {α : Type} {xs : List α} {x y : α} {j : Nat} (h : (xs ++ [x])[j]? = some y) : (j < xs.length ∧ xs[j]? = some y) ∨ (j = xs.length ∧ y = x) := by
  rcases Nat.lt_or_ge j xs.length with hj | hj
  · rw [List.getElem?_append_left hj] at h
    exact .inl ⟨hj, h⟩
  · rw [List.getElem?_append_right hj, List.getElem?_singleton] at h
    split at h
    · injection h with h
      exact .inr ⟨by omega, h.symm⟩
    · cases h
theorem set_at {α : Type} {xs : List α} {x y : α} {i j : Nat} (h : (xs.set i x)[j]? = some y) : (j = i ∧ y = x) ∨ (j ≠ i ∧ xs[j]? = some y) := by
  rw [List.getElem?_set] at h
  split at h
  · split at h
    · injection h with h; exact .inl ⟨by omega, h.symm⟩
    · cases h
  · exact .inr ⟨by omega, h⟩
section
variable {s lo hi : Nat} {e : TypeId} {vs : List Value} {its : List (Nat × List Value)} {w w' : World}
/-- One row more, made behind all the others. -/
theorem Inn.snoc {v : Value} {it : Nat × List Value} {b hi' : Nat} (h : Inn s e lo hi vs its w) (hv : w.ownsRow b e s v it.1 it.2) (hb : hi ≤ b) (hlo : lo ≤ b) (hw : w.heap.size ≤ hi') (hh : hi ≤ hi') : Inn s e lo hi' (vs ++ [v]) (its ++ [it]) w := by
  have hbs := hv.lt
  refine ⟨by simp [h.len], fun j u i2 h1 h2 => ?_, fun j u k h1 h2 => ?_, fun i j u1 u2 hij h1 h2 => ?_⟩
  · rcases snoc_at h1 with ⟨hj, h1⟩ | ⟨hj, rfl⟩
    · rcases snoc_at h2 with ⟨_, h2⟩ | ⟨hj2, _⟩
      · exact h.own j u i2 h1 h2
      · have := h.len; omega
    · rcases snoc_at h2 with ⟨hj2, _⟩ | ⟨_, rfl⟩
      · have := h.len; omega
      · exact own_base hv hlo
  · rcases snoc_at h1 with ⟨hj, h1⟩ | ⟨hj, rfl⟩
    · have := h.top j u k h1 h2; omega
    · have := hbs k h2; omega
  · rcases snoc_at h1 with ⟨hi1, h1'⟩ | ⟨hi1, _⟩
    · rcases snoc_at h2 with ⟨_, h2'⟩ | ⟨_, e5⟩
      · exact h.apart i j u1 u2 hij h1' h2'
      · subst e5
        cases hk : u1.ownBlock with
        | none => exact .inl rfl
        | some k =>
          refine .inr fun e2 => ?_
          have := hbs k e2.symm
          have := h.top i u1 k h1' hk
          omega
    · rcases snoc_at h2 with ⟨hj, _⟩ | ⟨hj, _⟩ <;> omega
/-- One row turns. -/
theorem Inn.turn {j : Nat} {v : Value} {it : Nat × List Value} (h : Inn s e lo hi vs its w) (hv : vs[j]? = some v) (hg : w.grownBy w' v.ownBlock) (hn : w'.ownsRow lo e s v it.1 it.2) : Inn s e lo hi vs (its.set j it) w' := by
  refine ⟨by rw [List.length_set]; exact h.len, fun i u i2 h1 h2 => ?_, h.top, h.apart⟩
  rcases set_at h2 with ⟨rfl, rfl⟩ | ⟨hne, h2⟩
  · rw [hv] at h1; injection h1 with h1; subst h1; exact hn
  · refine (h.own i u i2 h1 h2).kept hg ?_
    rcases Nat.lt_or_ge i j with hij | hij
    · exact h.apart i j u v hij h1 hv
    · cases hu : u.ownBlock with
      | none => exact .inl rfl
      | some k =>
        refine .inr fun e2 => ?_
        rcases h.apart j i v u (by omega) hv h1 with h3 | h3
        · rw [h3] at e2; cases e2
        · exact h3 (by rw [hu]; exact e2.symm)
theorem Inn.touch (h : Inn s e lo hi vs its w) {j : Nat} {v : Value} (hv : vs[j]? = some v) (hg : w.grownBy w' v.ownBlock) : Touch lo hi w w' := by
  refine Touch.of_grown hg fun k hk => ?_
  have hj : j < its.length := by rw [← h.len]; exact (List.getElem?_eq_some_iff.1 hv).1
  have ho := h.own j v _ hv (List.getElem?_eq_getElem hj)
  exact ⟨(ho.lt k hk).1, h.top j v k hv hk⟩
end
theorem own_apart_ty {w : World} {b1 b2 : Nat} {e1 e2 : TypeId} {s1 s2 n1 n2 : Nat} {v1 v2 : Value} {x1 x2 : List Value} (h1 : w.ownsRow b1 e1 s1 v1 n1 x1) (h2 : w.ownsRow b2 e2 s2 v2 n2 x2) (hne : e1 ≠ e2) : v1.ownBlock = none ∨ v1.ownBlock ≠ v2.ownBlock := by
  rcases h1.2 with ⟨rfl, _⟩ | ⟨g, cap, cur, rfl, _, hg, _⟩
  · exact .inl rfl
  · refine .inr fun e => ?_
    exact own_ne_block h2 hg (fun h => hne h.symm) e

theorem Inn.kept {s lo hi : Nat} {e t : TypeId} {vs : List Value} {its : List (Nat × List Value)} {w w' : World} {b s0 n : Nat} {V : Value} {cs : List Value} (h : Inn s e lo hi vs its w) (ho : w.ownsRow b t s0 V n cs) (hg : w.grownBy w' V.ownBlock) (hne : e ≠ t) : Inn s e lo hi vs its w' :=
  ⟨h.len, fun j v it h1 h2 => (h.own j v it h1 h2).kept hg (own_apart_ty (h.own j v it h1 h2) ho hne), h.top, h.apart⟩

/-- The marks of rows that follow each other. -/
def mks (F : Int → Value) (s : Nat) : Int → List (Nat × List Value) → List (Nat × List Value)
  | _, [] => []
  | k, it :: l => (it.1, marks F k (it.1 * s)) :: mks F s (k + (it.1 * s : Nat)) l
/-- How many cells rows have. -/
def cellsIn (s : Nat) (its : List (Nat × List Value)) : Nat := (its.map fun it => it.1 * s).sum
theorem cellsIn_snoc (s : Nat) (its : List (Nat × List Value)) (it : Nat × List Value) : cellsIn s (its ++ [it]) = cellsIn s its + it.1 * s := by simp [cellsIn]
theorem cellsIn_take {s : Nat} {its : List (Nat × List Value)} {k : Nat} {it : Nat × List Value} (h : its[k]? = some it) : cellsIn s (its.take (k + 1)) = cellsIn s (its.take k) + it.1 * s := by
  rw [List.take_add_one, h]; exact cellsIn_snoc s _ it
theorem cellsIn_le (s : Nat) (its : List (Nat × List Value)) (k : Nat) : cellsIn s (its.take k) ≤ cellsIn s its := by
  have h : ∀ a b : List (Nat × List Value), cellsIn s a ≤ cellsIn s (a ++ b) := by intro a b; simp [cellsIn]
  have := h (its.take k) (its.drop k)
  rwa [List.take_append_drop] at this
theorem length_mks (F : Int → Value) (s : Nat) (its : List (Nat × List Value)) : ∀ k, (mks F s k its).length = its.length := by
  induction its with
  | nil => intro k; rfl
  | cons it l ih => intro k; simp [mks, ih]
theorem mks_snoc (F : Int → Value) (s : Nat) (it : Nat × List Value) (its : List (Nat × List Value)) : ∀ k : Int, mks F s k (its ++ [it]) = mks F s k its ++ [(it.1, marks F (k + (cellsIn s its : Nat)) (it.1 * s))] := by
  induction its with
  | nil => intro k; simp [mks, cellsIn]
  | cons i l ih =>
    intro k
    simp only [List.cons_append, mks, ih]
    congr 5
    simp only [cellsIn, List.map_cons, List.sum_cons]
    omega
theorem mks_at (F : Int → Value) (s : Nat) {its : List (Nat × List Value)} {j : Nat} {it : Nat × List Value} (h : its[j]? = some it) (k : Int) : (mks F s k its)[j]? = some (it.1, marks F (k + (cellsIn s (its.take j) : Nat)) (it.1 * s)) := by
  obtain ⟨hj, hx⟩ := List.getElem?_eq_some_iff.1 h
  have e : its = its.take j ++ it :: its.drop (j + 1) := by
    conv => lhs; rw [← List.take_append_drop j its, List.drop_eq_getElem_cons hj, hx]
  have e2 : ∀ (a b : List (Nat × List Value)) (k : Int), mks F s k (a ++ b) = mks F s k a ++ mks F s (k + (cellsIn s a : Nat)) b := by
    intro a
    induction a with
    | nil => intro b k; simp [mks, cellsIn]
    | cons i l ih =>
      intro b k
      simp only [List.cons_append, mks, ih]
      congr 3
      simp only [cellsIn, List.map_cons, List.sum_cons]
      omega
  conv => lhs; rw [e, e2]
  rw [List.getElem?_append_right (by rw [length_mks, List.length_take]; omega), length_mks, List.length_take, Nat.min_eq_left (by omega), Nat.sub_self]
  rfl
/-- A round of marking. -/
theorem Inn.mark {F : Int → Value} {k0 : Int} {s lo hi k : Nat} {e : TypeId} {vs : List Value} {its : List (Nat × List Value)} {w w' : World} {v : Value} {it : Nat × List Value} (h : Inn s e lo hi vs (mks F s k0 (its.take k) ++ its.drop k) w) (hv : vs[k]? = some v) (hit : its[k]? = some it)
    (hg : w.grownBy w' v.ownBlock) (hn : w'.ownsRow lo e s v it.1 (marks F (k0 + (cellsIn s (its.take k) : Nat)) (it.1 * s))) : Inn s e lo hi vs (mks F s k0 (its.take (k + 1)) ++ its.drop (k + 1)) w' := by
  have h2 := h.turn (it := (it.1, marks F (k0 + (cellsIn s (its.take k) : Nat)) (it.1 * s))) hv hg hn
  obtain ⟨hj, hx⟩ := List.getElem?_eq_some_iff.1 hit
  have e : (mks F s k0 (its.take k) ++ its.drop k).set k (it.1, marks F (k0 + (cellsIn s (its.take k) : Nat)) (it.1 * s)) = mks F s k0 (its.take (k + 1)) ++ its.drop (k + 1) := by
    have hl : (mks F s k0 (its.take k)).length = k := by rw [length_mks, List.length_take]; omega
    rw [List.set_append_right _ _ (by omega), hl, Nat.sub_self, List.drop_eq_getElem_cons hj, List.set_cons_zero, List.take_add_one, hit]
    show _ = mks F s k0 (its.take k ++ [it]) ++ _
    rw [mks_snoc]
    simp
  rw [e] at h2
  exact h2
theorem inn_row {F : Int → Value} {k0 : Int} {s lo hi k : Nat} {e : TypeId} {vs : List Value} {its : List (Nat × List Value)} {w : World} {v : Value} {it : Nat × List Value} (h : Inn s e lo hi vs (mks F s k0 (its.take k) ++ its.drop k) w) (hv : vs[k]? = some v) (hit : its[k]? = some it) : w.ownsRow lo e s v it.1 it.2 := by
  obtain ⟨hj, hx⟩ := List.getElem?_eq_some_iff.1 hit
  refine h.own k v it hv ?_
  have hl : (mks F s k0 (its.take k)).length = k := by rw [length_mks, List.length_take]; omega
  rw [List.getElem?_append_right (by omega), hl, Nat.sub_self, List.getElem?_drop]
  simpa using hit

/-- A row whose cells hold rows: the outer row (n elements of s0 cells, read as cs), the inner ones (elements of s cells); all blocks from base up to hi. -/
structure Grid (base hi : Nat) (t : TypeId) (s0 : Nat) (V : Value) (n : Nat) (cs : List Value) (e : TypeId) (s : Nat) (us : List Value) (its : List (Nat × List Value)) (W : World) : Prop where
  own : W.ownsRow base t s0 V n cs
  inn : Inn s e base hi us its W
  top : ∀ k, V.ownBlock = some k → k < hi
section
variable {base hi : Nat} {t : TypeId} {s0 : Nat} {V : Value} {n : Nat} {cs : List Value} {e : TypeId} {s : Nat} {us : List Value} {its : List (Nat × List Value)} {w w' : World}
theorem Grid.dep (base hi : Nat) (t : TypeId) (s0 : Nat) (V : Value) (n : Nat) (cs : List Value) (e : TypeId) (s : Nat) (us : List Value) (its : List (Nat × List Value)) : Dep base hi (Grid base hi t s0 V n cs e s us its) := by
  intro a b h hk
  exact ⟨own_dep (w := a) (fun k h2 => ⟨(h.own.lt k h2).1, h.top k h2⟩) a b h.own hk, Inn.dep base hi s e us its a b h.inn hk, h.top⟩
theorem Grid.held (h : Grid base hi t s0 V n cs e s us its w) (hh : hi ≤ w.heap.size) : Held base hi (Grid base hi t s0 V n cs e s us its) w := ⟨hh, h, Grid.dep _ _ _ _ _ _ _ _ _ _ _⟩
theorem Grid.below (h : Grid base hi t s0 V n cs e s us its w) (hb : Below w.heap.size w w') : Grid base hi t s0 V n cs e s us its w' := ⟨own_below' h.own hb, h.inn.below hb, h.top⟩
end
theorem fill_set {us : List Value} {n k : Nat} {z v : Value} (hl : us.length = k) (hk : k < n) : (us ++ List.replicate (n - k) z).set k v = (us ++ [v]) ++ List.replicate (n - (k + 1)) z := by
  subst hl
  rw [List.set_append_right _ _ (Nat.le_refl _), Nat.sub_self, show n - us.length = (n - (us.length + 1)) + 1 by omega, List.replicate_succ, List.set_cons_zero]
  simp

/-- Slices in the cells of another slice that came in. -/
def Ins {α : Type} (s : Nat) (f : α → List Value) (w : World) (vs : List Value) (ts : List (List α)) : Prop :=
  vs.length = ts.length ∧ ∀ (j : Nat) (v : Value) (t : List α), vs[j]? = some v → ts[j]? = some t → ∃ A c, v = .slice A t.length c ∧ Args s w A t.length (rows f t)
theorem Ins.below {α : Type} {s : Nat} {f : α → List Value} {w w' : World} {vs : List Value} {ts : List (List α)} (h : Ins s f w vs ts) (hb : Below w.heap.size w w') : Ins s f w' vs ts :=
  ⟨h.1, fun j v t h1 h2 => by obtain ⟨A, c, e, ha⟩ := h.2 j v t h1 h2; exact ⟨A, c, e, ha.below hb⟩⟩
theorem Ins.get {α : Type} {s : Nat} {f : α → List Value} {w : World} {vs : List Value} {ts : List (List α)} (h : Ins s f w vs ts) {j : Nat} {t : List α} (ht : ts[j]? = some t) : ∃ A c, vs[j]? = some (.slice A t.length c) ∧ Args s w A t.length (rows f t) := by
  have hj := (List.getElem?_eq_some_iff.1 ht).1
  have h1 : vs[j]? = some (vs[j]'(by rw [h.1]; exact hj)) := List.getElem?_eq_getElem _
  obtain ⟨A, c, e, ha⟩ := h.2 j _ t h1 ht
  exact ⟨A, c, by rw [h1, e], ha⟩
/-- The rows of lists. -/
def itsOf {α : Type} (f : α → List Value) (ts : List (List α)) : List (Nat × List Value) := ts.map fun t => (t.length, rows f t)
theorem itsOf_take {α : Type} (f : α → List Value) (ts : List (List α)) (k : Nat) : (itsOf f ts).take k = itsOf f (ts.take k) := by simp [itsOf, List.map_take]
theorem itsOf_at {α : Type} (f : α → List Value) {ts : List (List α)} {k : Nat} {t : List α} (h : ts[k]? = some t) : (itsOf f ts)[k]? = some (t.length, rows f t) := by simp [itsOf, h]
theorem itsOf_snoc {α : Type} (f : α → List Value) {ts : List (List α)} {k : Nat} {t : List α} (h : ts[k]? = some t) : (itsOf f ts).take (k + 1) = (itsOf f ts).take k ++ [(t.length, rows f t)] := by
  rw [List.take_add_one, itsOf_at f h]; rfl
theorem Inn.ins {α : Type} {s lo hi : Nat} {f : α → List Value} {e : TypeId} {us : List Value} {ts : List (List α)} {w : World} (h : Inn s e lo hi us (itsOf f ts) w) : Ins s f w us ts := by
  refine ⟨by rw [h.len]; simp [itsOf], fun j v t h1 h2 => ?_⟩
  have ho := h.own j v _ h1 (itsOf_at f h2)
  obtain ⟨A, c, rfl⟩ := own_form ho
  exact ⟨A, c, rfl, args_of_own ho⟩
/-- How many elements lists have. -/
def sumLen {α : Type} (ts : List (List α)) : Nat := (ts.map List.length).sum
theorem sumLen_take {α : Type} {ts : List (List α)} {k : Nat} {t : List α} (h : ts[k]? = some t) : sumLen (ts.take (k + 1)) = sumLen (ts.take k) + t.length := by
  rw [List.take_add_one, h]; simp [sumLen]
theorem sumLen_le {α : Type} (ts : List (List α)) (k : Nat) : sumLen (ts.take k) ≤ sumLen ts := by
  have h : ∀ a b : List (List α), sumLen a ≤ sumLen (a ++ b) := by intro a b; simp [sumLen]
  have := h (ts.take k) (ts.drop k)
  rwa [List.take_append_drop] at this
theorem sumLen_at {α : Type} {ts : List (List α)} {k : Nat} {t : List α} (h : ts[k]? = some t) : t.length ≤ sumLen ts := by
  have := sumLen_take h
  have := sumLen_le ts (k + 1)
  omega
theorem sumLen_mem {α : Type} {ts : List (List α)} {t : List α} (h : t ∈ ts) : t.length ≤ sumLen ts := by
  obtain ⟨j, hj⟩ := List.getElem?_of_mem h
  exact sumLen_at hj
theorem cellsIn_its {α : Type} (f : α → List Value) (s : Nat) (ts : List (List α)) : cellsIn s (itsOf f ts) = sumLen ts * s := by
  unfold cellsIn itsOf sumLen
  induction ts with
  | nil => simp
  | cons t l ih => simp only [List.map_cons, List.sum_cons, Nat.add_mul]; rw [← ih]
theorem arg_args {w : World} {A : Option Addr} {n : Nat} {xs : List Value} (h : Args 1 w A n xs) : Arg w A n xs := ⟨by have := h.1; omega, h.2⟩
theorem args_arg {w : World} {A : Option Addr} {n : Nat} {xs : List Value} (h : Arg w A n xs) : Args 1 w A n xs := ⟨by have := h.1; omega, h.2⟩
def oneI (x : Int) : List Value := [.int .i64 x]
def oneB (x : Bool) : List Value := [.bool x]
theorem rows_oneI (xs : List Int) : rows oneI xs = xs.map (Value.int .i64) := by unfold rows oneI; induction xs <;> simp_all
theorem rows_oneB (xs : List Bool) : rows oneB xs = xs.map Value.bool := by unfold rows oneB; induction xs <;> simp_all
/-- A row, its block below hi. -/
structure Flat (lo hi : Nat) (e : TypeId) (s : Nat) (V : Value) (n : Nat) (xs : List Value) (W : World) : Prop where
  own : W.ownsRow lo e s V n xs
  top : ∀ k, V.ownBlock = some k → k < hi
section
variable {lo hi : Nat} {e : TypeId} {s : Nat} {V : Value} {n : Nat} {xs ys : List Value} {w w' : World}
theorem Flat.dep (lo hi : Nat) (e : TypeId) (s : Nat) (V : Value) (n : Nat) (xs : List Value) : Dep lo hi (Flat lo hi e s V n xs) := by
  intro a b h hk
  exact ⟨own_dep (w := a) (fun k h2 => ⟨(h.own.lt k h2).1, h.top k h2⟩) a b h.own hk, h.top⟩
theorem flat_of_own (h : w.ownsRow lo e s V n xs) : Held lo w.heap.size (Flat lo w.heap.size e s V n xs) w := ⟨Nat.le_refl _, ⟨h, fun k hk => (h.lt k hk).2⟩, Flat.dep _ _ _ _ _ _ _⟩
theorem Flat.turn (h : Held lo hi (Flat lo hi e s V n xs) w) (hn : w'.ownsRow lo e s V n ys) (hg : w.grownBy w' V.ownBlock) : Held lo hi (Flat lo hi e s V n ys) w' ∧ Touch lo hi w w' :=
  ⟨⟨Nat.le_trans h.le hg.size, ⟨hn, h.is.top⟩, Flat.dep _ _ _ _ _ _ _⟩, Touch.of_grown hg fun k hk => ⟨(h.is.own.lt k hk).1, h.is.top k hk⟩⟩
end
theorem Grid.turn {base hi : Nat} {t : TypeId} {s0 : Nat} {V : Value} {n : Nat} {cs cs' : List Value} {e : TypeId} {s : Nat} {us : List Value} {its its' : List (Nat × List Value)} {w w' : World} (h : Held base hi (Grid base hi t s0 V n cs e s us its) w) (hn : Grid base hi t s0 V n cs' e s us its' w') (ht : Touch base hi w w') : Held base hi (Grid base hi t s0 V n cs' e s us its') w' :=
  ⟨Nat.le_trans h.le ht.size, hn, Grid.dep _ _ _ _ _ _ _ _ _ _ _⟩
/-- Slices in the cells of a row, each nil or with cells that are there. -/
def Srcs {α : Type} (s : Nat) (f : α → List Value) (w : World) (vs : List Value) (ts : List (List α)) : Prop :=
  vs.length = ts.length ∧ ∀ (j : Nat) (v : Value) (t : List α), vs[j]? = some v → ts[j]? = some t → Src s w v t.length (rows f t)
theorem Srcs.below {α : Type} {s : Nat} {f : α → List Value} {w w' : World} {vs : List Value} {ts : List (List α)} (h : Srcs s f w vs ts) (hb : Below w.heap.size w w') : Srcs s f w' vs ts :=
  ⟨h.1, fun j v t h1 h2 => (h.2 j v t h1 h2).below hb⟩
theorem Inn.srcs {α : Type} {s lo hi : Nat} {f : α → List Value} {e : TypeId} {us : List Value} {ts : List (List α)} {w : World} (h : Inn s e lo hi us (itsOf f ts) w) : Srcs s f w us ts :=
  ⟨by rw [h.len]; simp [itsOf], fun j v t h1 h2 => Src.of_own (h.own j v _ h1 (itsOf_at f h2))⟩
theorem its_bound {α : Type} {f : α → List Value} {ts : List (List α)} {m : Nat} (h : sumLen ts ≤ m) : ∀ it ∈ itsOf f ts, it.1 ≤ m := by
  intro it hit
  unfold itsOf at hit
  obtain ⟨t, ht, rfl⟩ := List.mem_map.1 hit
  exact Nat.le_trans (sumLen_mem ht) h
/-- What is left behind n elements, or -1. -/
def SzOut (n : Nat) (left z : Int) : Prop := ((n : Int) ≤ left ∧ z = left - n) ∨ (left < (n : Int) ∧ z = -1)
theorem szOut_no {n : Nat} {left : Int} (h : left < (n : Int)) : SzOut n left (-1) := .inr ⟨h, rfl⟩
theorem szOut_yes {n : Nat} {left z : Int} (h : (n : Int) ≤ left) (hz : z = left - n) : SzOut n left z := .inl ⟨h, hz⟩
end Go.Proofs.YtjggkgdojhlhpaaGreat

/- Rows of records that hold slices of the call's own: plain lemmas on worlds, for whatever record. -/
namespace Go.Proofs.YtjggkgdojhlhpaaGreat
open Go.RowKit
set_option linter.all false

section
variable {α β : Type}
theorem flat_len (f : α → List β) {s : Nat} (hs : ∀ x, (f x).length = s) (xs : List α) : (xs.flatMap f).length = xs.length * s := by
  induction xs with
  | nil => simp
  | cons x l ih => rw [List.flatMap_cons, List.length_append, ih, hs, List.length_cons, Nat.succ_mul, Nat.add_comm]
theorem flat_at (f : α → List β) {s : Nat} (hs : ∀ x, (f x).length = s) {xs : List α} {k : Nat} {x : α} (h : xs[k]? = some x) {j : Nat} (hj : j < s) : (xs.flatMap f)[k * s + j]? = (f x)[j]? := by
  obtain ⟨hk, hx⟩ := List.getElem?_eq_some_iff.1 h
  have e : xs = xs.take k ++ (x :: xs.drop (k + 1)) := by
    conv => lhs; rw [← List.take_append_drop k xs, List.drop_eq_getElem_cons hk, hx]
  have l1 : ((xs.take k).flatMap f).length = k * s := by rw [flat_len f hs, List.length_take, Nat.min_eq_left (by omega)]
  conv => lhs; rw [e, List.flatMap_append]
  rw [List.getElem?_append_right (by omega), l1, Nat.add_sub_cancel_left, List.flatMap_cons, List.getElem?_append_left (by rw [hs]; exact hj)]
theorem flat_set (f : α → List β) {s : Nat} (hs : ∀ x, (f x).length = s) {xs : List α} {k : Nat} {x : α} (y : α) {j : Nat} {u : β} (hx : xs[k]? = some x) (hj : j < s) (hy : f y = (f x).set j u) : (xs.flatMap f).set (k * s + j) u = (xs.set k y).flatMap f := by
  obtain ⟨hk, hx'⟩ := List.getElem?_eq_some_iff.1 hx
  have e : xs = xs.take k ++ (x :: xs.drop (k + 1)) := by
    conv => lhs; rw [← List.take_append_drop k xs, List.drop_eq_getElem_cons hk, hx']
  have l1 : ((xs.take k).flatMap f).length = k * s := by rw [flat_len f hs, List.length_take, Nat.min_eq_left (by omega)]
  have l2 : (xs.take k).length = k := by rw [List.length_take]; omega
  have e2 : xs.set k y = xs.take k ++ (y :: xs.drop (k + 1)) := by
    conv => lhs; rw [e]
    rw [List.set_append_right _ _ (by omega), l2, Nat.sub_self, List.set_cons_zero]
  rw [e2, List.flatMap_append, List.flatMap_cons, hy]
  conv => lhs; rw [e]
  rw [List.flatMap_append, List.flatMap_cons, List.set_append_right _ _ (by omega), l1, Nat.add_sub_cancel_left, List.set_append_left _ _ (by rw [hs]; exact hj)]
theorem flat_same (f : α → List β) {xs : List α} {k : Nat} {x : α} (y : α) (hx : xs[k]? = some x) (hy : f y = f x) : (xs.set k y).flatMap f = xs.flatMap f := by
  obtain ⟨hk, hx'⟩ := List.getElem?_eq_some_iff.1 hx
  have e : xs = xs.take k ++ (x :: xs.drop (k + 1)) := by
    conv => lhs; rw [← List.take_append_drop k xs, List.drop_eq_getElem_cons hk, hx']
  have l2 : (xs.take k).length = k := by rw [List.length_take]; omega
  have e2 : xs.set k y = xs.take k ++ (y :: xs.drop (k + 1)) := by
    conv => lhs; rw [e]
    rw [List.set_append_right _ _ (by omega), l2, Nat.sub_self, List.set_cons_zero]
  rw [e2]
  conv => rhs; rw [e]
  simp only [List.flatMap_append, List.flatMap_cons, hy]
end

/-- A kind of record: its outer cells, its slices, and what they hold. -/
structure Knd (E : Type) where
  vs : E → List Value
  us : E → List Value
  its : E → List (Nat × List Value)
  s0 : Nat
  ns : Nat
  vs_len : ∀ e, (vs e).length = s0
  us_len : ∀ e, (us e).length = ns
  its_len : ∀ e, (its e).length = ns
/-- A row of records of the call's own. -/
def SGrid {E : Type} (K : Knd E) (base hi : Nat) (T Te : TypeId) (s : Nat) (V : Value) (es : List E) (W : World) : Prop :=
  Grid base hi T K.s0 V es.length (rows K.vs es) Te s (es.flatMap K.us) (es.flatMap K.its) W
section
variable {E : Type} {K : Knd E} {base hi : Nat} {T Te : TypeId} {s : Nat} {V : Value} {es : List E} {W W' : World}
theorem SGrid.dep : Dep base hi (SGrid K base hi T Te s V es) := Grid.dep _ _ _ _ _ _ _ _ _ _ _
theorem SGrid.held (h : SGrid K base hi T Te s V es W) (hh : hi ≤ W.heap.size) : Held base hi (SGrid K base hi T Te s V es) W := ⟨hh, h, SGrid.dep⟩
theorem SGrid.turn {es' : List E} (h : Held base hi (SGrid K base hi T Te s V es) W) (hn : SGrid K base hi T Te s V es' W') (ht : Touch base hi W W') : Held base hi (SGrid K base hi T Te s V es') W' := ⟨Nat.le_trans h.le ht.size, hn, SGrid.dep⟩
theorem SGrid.below (h : SGrid K base hi T Te s V es W) (hb : Below W.heap.size W W') : SGrid K base hi T Te s V es W' := Grid.below h hb
/-- One of the slices of a record. -/
theorem SGrid.row (h : SGrid K base hi T Te s V es W) {k j : Nat} {e : E} (hk : es[k]? = some e) {v : Value} {it : Nat × List Value} (hv : (K.us e)[j]? = some v) (hit : (K.its e)[j]? = some it) : W.ownsRow base Te s v it.1 it.2 := by
  have hj : j < K.ns := by rw [← K.us_len e]; exact (List.getElem?_eq_some_iff.1 hv).1
  exact h.inn.own (k * K.ns + j) v it (by rw [flat_at K.us K.us_len hk hj]; exact hv) (by rw [flat_at K.its K.its_len hk hj]; exact hit)
/-- A store into an outer cell. -/
theorem SGrid.store {g n cap k j : Nat} {e e' : E} {u : Value} (h : SGrid K base hi T Te s (.slice (some ⟨g, 0, none⟩) n cap) es W) (hk : es[k]? = some e) (hj : j < K.s0) (hvs : K.vs e' = (K.vs e).set j u) (hus : K.us e' = K.us e) (hits : K.its e' = K.its e) (hne : Te ≠ T) :
    SGrid K base hi T Te s (.slice (some ⟨g, 0, none⟩) n cap) (es.set k e') (W.setCell ⟨g, k * K.s0 + j, none⟩ u) ∧ Touch base hi W (W.setCell ⟨g, k * K.s0 + j, none⟩ u) := by
  have hl : n = es.length := by
    have := h.own
    obtain ⟨A, c, e1⟩ := own_form this
    injection e1
  subst hl
  have ho := h.own
  obtain ⟨h1, h2⟩ := ho.stored (k * K.s0 + j) u
  refine ⟨⟨?_, ?_, h.top⟩, ?_⟩
  · unfold rows at h1 ⊢
    rw [flat_set K.vs K.vs_len e' hk hj hvs] at h1
    rw [List.length_set]
    exact h1
  · have hin := h.inn.kept ho h2 hne
    rw [flat_same K.us e' hk hus, flat_same K.its e' hk hits]
    exact hin
  · refine Touch.of_grown h2 fun q hq => ?_
    exact ⟨(ho.lt q hq).1, h.top q hq⟩
/-- One of the slices is written over. -/
theorem SGrid.mark {k j : Nat} {e e' : E} {v : Value} {it : Nat × List Value} {ys : List Value} (h : SGrid K base hi T Te s V es W) (hk : es[k]? = some e) (hv : (K.us e)[j]? = some v) (hit : (K.its e)[j]? = some it) (hg : W.grownBy W' v.ownBlock) (hn : W'.ownsRow base Te s v it.1 ys)
    (hvs : K.vs e' = K.vs e) (hus : K.us e' = K.us e) (hits : K.its e' = (K.its e).set j (it.1, ys)) (hne : T ≠ Te) : SGrid K base hi T Te s V (es.set k e') W' ∧ Touch base hi W W' := by
  have hj : j < K.ns := by rw [← K.us_len e]; exact (List.getElem?_eq_some_iff.1 hv).1
  have hv2 : (es.flatMap K.us)[k * K.ns + j]? = some v := by rw [flat_at K.us K.us_len hk hj]; exact hv
  have hrow := h.row hk hv hit
  refine ⟨⟨?_, ?_, h.top⟩, h.inn.touch hv2 hg⟩
  · rw [List.length_set]
    have : rows K.vs (es.set k e') = rows K.vs es := flat_same K.vs e' hk hvs
    rw [this]
    exact h.own.kept hg (own_apart_ty h.own hrow hne)
  · rw [flat_same K.us e' hk hus]
    have := h.inn.turn (it := (it.1, ys)) hv2 hg hn
    rw [flat_set K.its K.its_len e' hk hj hits] at this
    exact this
end

/-- Marks, record by record. -/
def markL {E : Type} (wid : E → Nat) (mk : Int → E → E) : Int → List E → List E
  | _, [] => []
  | k, e :: l => mk k e :: markL wid mk (k + (wid e : Nat)) l
def widSum {E : Type} (wid : E → Nat) (es : List E) : Nat := (es.map wid).sum
section
variable {E : Type} (wid : E → Nat) (mk : Int → E → E)
theorem widSum_take {es : List E} {k : Nat} {e : E} (h : es[k]? = some e) : widSum wid (es.take (k + 1)) = widSum wid (es.take k) + wid e := by
  rw [List.take_add_one, h]; simp [widSum]
theorem widSum_le (es : List E) (k : Nat) : widSum wid (es.take k) ≤ widSum wid es := by
  have h : ∀ a b : List E, widSum wid a ≤ widSum wid (a ++ b) := by intro a b; simp [widSum]
  have := h (es.take k) (es.drop k)
  rwa [List.take_append_drop] at this
theorem widSum_at {es : List E} {k : Nat} {e : E} (h : es[k]? = some e) : wid e ≤ widSum wid es := by
  have := widSum_take wid h
  have := widSum_le wid es (k + 1)
  omega
theorem length_markL (es : List E) : ∀ k, (markL wid mk k es).length = es.length := by
  induction es with
  | nil => intro k; rfl
  | cons e l ih => intro k; simp [markL, ih]
theorem markL_app (a b : List E) : ∀ k : Int, markL wid mk k (a ++ b) = markL wid mk k a ++ markL wid mk (k + (widSum wid a : Nat)) b := by
  induction a with
  | nil => intro k; simp [markL, widSum]
  | cons e l ih =>
    intro k
    simp only [List.cons_append, markL, ih]
    congr 3
    simp only [widSum, List.map_cons, List.sum_cons]
    omega
theorem markL_at {es : List E} {j : Nat} {e : E} (h : es[j]? = some e) (k : Int) : (markL wid mk k es)[j]? = some (mk (k + (widSum wid (es.take j) : Nat)) e) := by
  obtain ⟨hj, hx⟩ := List.getElem?_eq_some_iff.1 h
  have e1 : es = es.take j ++ e :: es.drop (j + 1) := by
    conv => lhs; rw [← List.take_append_drop j es, List.drop_eq_getElem_cons hj, hx]
  conv => lhs; rw [e1, markL_app]
  rw [List.getElem?_append_right (by rw [length_markL, List.length_take]; omega), length_markL, List.length_take, Nat.min_eq_left (by omega), Nat.sub_self]
  rfl
theorem markL_cur {es : List E} {k : Nat} {e : E} (h : es[k]? = some e) (k0 : Int) : (markL wid mk k0 (es.take k) ++ es.drop k)[k]? = some e := by
  obtain ⟨hj, hx⟩ := List.getElem?_eq_some_iff.1 h
  have hl : (markL wid mk k0 (es.take k)).length = k := by rw [length_markL, List.length_take]; omega
  rw [List.getElem?_append_right (by omega), hl, Nat.sub_self, List.getElem?_drop]
  simpa using h
theorem markL_next {es : List E} {k : Nat} {e : E} (h : es[k]? = some e) (k0 : Int) {e' : E} (he : e' = mk (k0 + (widSum wid (es.take k) : Nat)) e) : (markL wid mk k0 (es.take k) ++ es.drop k).set k e' = markL wid mk k0 (es.take (k + 1)) ++ es.drop (k + 1) := by
  subst he
  obtain ⟨hj, hx⟩ := List.getElem?_eq_some_iff.1 h
  have hl : (markL wid mk k0 (es.take k)).length = k := by rw [length_markL, List.length_take]; omega
  rw [List.set_append_right _ _ (by omega), hl, Nat.sub_self, List.drop_eq_getElem_cons hj, List.set_cons_zero, List.take_add_one, h]
  show _ = markL wid mk k0 (es.take k ++ [e]) ++ _
  rw [markL_app]
  simp [markL]
end
theorem set_set' {α : Type} (xs : List α) (k : Nat) (a b : α) : (xs.set k a).set k b = xs.set k b := List.set_set ..
theorem get_set' {α : Type} {xs : List α} {k : Nat} {x : α} (h : xs[k]? = some x) (y : α) : (xs.set k y)[k]? = some y := by
  have := (List.getElem?_eq_some_iff.1 h).1
  rw [List.getElem?_set_self this]

/-- The marks as numbers, and as records of two numbers. -/
def runI (k : Int) (n : Nat) : List Int := (List.range n).map fun j : Nat => k + (j : Int)
def run2 (k : Int) (n : Nat) : List R2 := (List.range n).map fun j : Nat => ⟨k + (j : Int) * 2, k + (j : Int) * 2 + 1⟩
theorem runI_len (k : Int) (n : Nat) : (runI k n).length = n := by simp [runI]
theorem run2_len (k : Int) (n : Nat) : (run2 k n).length = n := by simp [run2]
theorem rows_run2 (k : Int) (n : Nat) : rows R2.vs (run2 k n) = marks (.int .i64) k (n * 2) := by
  induction n with
  | zero => simp [run2, marks, rows]
  | succ n ih =>
    have e1 : run2 k (n + 1) = run2 k n ++ [⟨k + (n : Int) * 2, k + (n : Int) * 2 + 1⟩] := by simp [run2, List.range_succ]
    have e2 : marks (Value.int .i64) k ((n + 1) * 2) = marks (Value.int .i64) k (n * 2) ++ [.int .i64 (k + ((n * 2 : Nat) : Int)), .int .i64 (k + ((n * 2 + 1 : Nat) : Int))] := by
      rw [show (n + 1) * 2 = n * 2 + 1 + 1 by omega]
      simp [marks, List.range_succ]
    rw [e1, rows_app, ih, rows_one, e2]
    congr 1
    simp only [R2.vs]
    have h1 : k + (n : Int) * 2 = k + ((n * 2 : Nat) : Int) := by omega
    have h2 : k + (n : Int) * 2 + 1 = k + ((n * 2 + 1 : Nat) : Int) := by omega
    rw [h2, h1]

/-- Records stored one behind the other. -/
theorem put2 {A rest : List Value} {m : Nat} (a b : Value) (hl : A.length = m) (h : 2 ≤ rest.length) : ((A ++ rest).set m a).set (m + 1) b = (A ++ [a, b]) ++ rest.drop 2 := by
  subst hl
  match rest, h with
  | x0 :: x1 :: r, _ => simp
theorem put3 {A rest : List Value} {m : Nat} (a b c : Value) (hl : A.length = m) (h : 3 ≤ rest.length) : (((A ++ rest).set m a).set (m + 1) b).set (m + 2) c = (A ++ [a, b, c]) ++ rest.drop 3 := by
  subst hl
  match rest, h with
  | x0 :: x1 :: x2 :: r, _ => simp
theorem put4 {A rest : List Value} {m : Nat} (a b c d : Value) (hl : A.length = m) (h : 4 ≤ rest.length) : ((((A ++ rest).set m a).set (m + 1) b).set (m + 2) c).set (m + 3) d = (A ++ [a, b, c, d]) ++ rest.drop 4 := by
  subst hl
  match rest, h with
  | x0 :: x1 :: x2 :: x3 :: r, _ => simp
theorem put5 {A rest : List Value} {m : Nat} (a b c d e : Value) (hl : A.length = m) (h : 5 ≤ rest.length) : (((((A ++ rest).set m a).set (m + 1) b).set (m + 2) c).set (m + 3) d).set (m + 4) e = (A ++ [a, b, c, d, e]) ++ rest.drop 5 := by
  subst hl
  match rest, h with
  | x0 :: x1 :: x2 :: x3 :: x4 :: r, _ => simp
section
variable {base g n cap : Nat} {T : TypeId} {A rest : List Value} {m : Nat} {w : World}
theorem own_put2 (h : w.ownsRow base T 2 (.slice (some ⟨g, 0, none⟩) n cap) n (A ++ rest)) (hl : A.length = m) (hr : 2 ≤ rest.length) (a b : Value) :
    ((w.setCell ⟨g, m, none⟩ a).setCell ⟨g, m + 1, none⟩ b).ownsRow base T 2 (.slice (some ⟨g, 0, none⟩) n cap) n ((A ++ [a, b]) ++ rest.drop 2) ∧ w.grownBy ((w.setCell ⟨g, m, none⟩ a).setCell ⟨g, m + 1, none⟩ b) (some g) := by
  rw [← put2 a b hl hr]
  obtain ⟨h1, g1⟩ := h.stored m a
  obtain ⟨h2, g2⟩ := h1.stored (m + 1) b
  exact ⟨h2, g1.trans g2⟩
theorem own_put3 (h : w.ownsRow base T 3 (.slice (some ⟨g, 0, none⟩) n cap) n (A ++ rest)) (hl : A.length = m) (hr : 3 ≤ rest.length) (a b c : Value) :
    (((w.setCell ⟨g, m, none⟩ a).setCell ⟨g, m + 1, none⟩ b).setCell ⟨g, m + 2, none⟩ c).ownsRow base T 3 (.slice (some ⟨g, 0, none⟩) n cap) n ((A ++ [a, b, c]) ++ rest.drop 3) ∧ w.grownBy (((w.setCell ⟨g, m, none⟩ a).setCell ⟨g, m + 1, none⟩ b).setCell ⟨g, m + 2, none⟩ c) (some g) := by
  rw [← put3 a b c hl hr]
  obtain ⟨h1, g1⟩ := h.stored m a
  obtain ⟨h2, g2⟩ := h1.stored (m + 1) b
  obtain ⟨h3, g3⟩ := h2.stored (m + 2) c
  exact ⟨h3, (g1.trans g2).trans g3⟩
theorem own_put4 (h : w.ownsRow base T 4 (.slice (some ⟨g, 0, none⟩) n cap) n (A ++ rest)) (hl : A.length = m) (hr : 4 ≤ rest.length) (a b c d : Value) :
    ((((w.setCell ⟨g, m, none⟩ a).setCell ⟨g, m + 1, none⟩ b).setCell ⟨g, m + 2, none⟩ c).setCell ⟨g, m + 3, none⟩ d).ownsRow base T 4 (.slice (some ⟨g, 0, none⟩) n cap) n ((A ++ [a, b, c, d]) ++ rest.drop 4) ∧ w.grownBy ((((w.setCell ⟨g, m, none⟩ a).setCell ⟨g, m + 1, none⟩ b).setCell ⟨g, m + 2, none⟩ c).setCell ⟨g, m + 3, none⟩ d) (some g) := by
  rw [← put4 a b c d hl hr]
  obtain ⟨h1, g1⟩ := h.stored m a
  obtain ⟨h2, g2⟩ := h1.stored (m + 1) b
  obtain ⟨h3, g3⟩ := h2.stored (m + 2) c
  obtain ⟨h4, g4⟩ := h3.stored (m + 3) d
  exact ⟨h4, ((g1.trans g2).trans g3).trans g4⟩
theorem own_put5 (h : w.ownsRow base T 5 (.slice (some ⟨g, 0, none⟩) n cap) n (A ++ rest)) (hl : A.length = m) (hr : 5 ≤ rest.length) (a b c d e : Value) :
    (((((w.setCell ⟨g, m, none⟩ a).setCell ⟨g, m + 1, none⟩ b).setCell ⟨g, m + 2, none⟩ c).setCell ⟨g, m + 3, none⟩ d).setCell ⟨g, m + 4, none⟩ e).ownsRow base T 5 (.slice (some ⟨g, 0, none⟩) n cap) n ((A ++ [a, b, c, d, e]) ++ rest.drop 5) ∧ w.grownBy (((((w.setCell ⟨g, m, none⟩ a).setCell ⟨g, m + 1, none⟩ b).setCell ⟨g, m + 2, none⟩ c).setCell ⟨g, m + 3, none⟩ d).setCell ⟨g, m + 4, none⟩ e) (some g) := by
  rw [← put5 a b c d e hl hr]
  obtain ⟨h1, g1⟩ := h.stored m a
  obtain ⟨h2, g2⟩ := h1.stored (m + 1) b
  obtain ⟨h3, g3⟩ := h2.stored (m + 2) c
  obtain ⟨h4, g4⟩ := h3.stored (m + 3) d
  obtain ⟨h5, g5⟩ := h4.stored (m + 4) e
  exact ⟨h5, (((g1.trans g2).trans g3).trans g4).trans g5⟩
end
/-- Three blocks laid one behind the other. -/
theorem al3 (w : World) (o1 o2 o3 : Obj) : ∃ w3, Hid (w3 = ((w.alloc o1).alloc o2).alloc o3) ∧ Below w.heap.size w w3 ∧ w3.heap[w.heap.size]? = some o1 ∧ w3.heap[w.heap.size + 1]? = some o2 ∧ w3.heap[w.heap.size + 1 + 1]? = some o3 ∧ w3.heap.size = w.heap.size + 1 + 1 + 1 := by
  refine ⟨_, rfl, (((Below.refl _ _).alloc (Nat.le_refl _) _).alloc (by simp) _).alloc (by simp; omega) _, ?_, ?_, ?_, by simp⟩
  · rw [Below.heap_alloc _ _ _ (by simp; omega), Below.heap_alloc _ _ _ (by simp)]; exact heap_alloc_new w o1
  · have h1 := heap_alloc_new (w.alloc o1) o2
    rw [Below.heap_alloc _ _ _ (by simp)]
    simpa using h1
  · have := heap_alloc_new ((w.alloc o1).alloc o2) o3
    simpa using this
theorem al2 (w : World) (o1 o2 : Obj) : ∃ w2, Hid (w2 = (w.alloc o1).alloc o2) ∧ Below w.heap.size w w2 ∧ w2.heap[w.heap.size]? = some o1 ∧ w2.heap[w.heap.size + 1]? = some o2 := by
  refine ⟨_, rfl, ((Below.refl _ _).alloc (Nat.le_refl _) _).alloc (by simp) _, ?_, ?_⟩
  · rw [Below.heap_alloc _ _ _ (by simp)]; exact heap_alloc_new w o1
  · have h1 := heap_alloc_new (w.alloc o1) o2
    simpa using h1
theorem al1 (w : World) (o1 : Obj) : ∃ w1, Hid (w1 = w.alloc o1) ∧ Below w.heap.size w w1 ∧ w1.heap[w.heap.size]? = some o1 := ⟨_, rfl, laid_below _ _, heap_alloc_new w o1⟩
theorem own_set_low {w : World} {base : Nat} {e : TypeId} {size n : Nat} {v : Value} {xs : List Value} (h : w.ownsRow base e size v n xs) {b o : Nat} (hb : b < base) (u : Value) : (w.setCell ⟨b, o, none⟩ u).ownsRow base e size v n xs := ownsRow_setCell_below h hb u
theorem rest_len {A rest : List Value} {n k s : Nat} (h : (A ++ rest).length = n * s) (hA : A.length = k * s) (hk : k < n) : s ≤ rest.length := by
  rw [List.length_append] at h
  have : (k + 1) * s ≤ n * s := Nat.mul_le_mul_right s hk
  rw [Nat.succ_mul] at this
  omega

theorem Inn.set_low {s lo hi : Nat} {e : TypeId} {vs : List Value} {its : List (Nat × List Value)} {w : World} (h : Inn s e lo hi vs its w) {b o : Nat} (hb : b < lo) (u : Value) : Inn s e lo hi vs its (w.setCell ⟨b, o, none⟩ u) :=
  ⟨h.len, fun j v it h1 h2 => own_set_low (h.own j v it h1 h2) hb u, h.top, h.apart⟩
theorem Inn.lower {s lo lo' hi : Nat} {e : TypeId} {vs : List Value} {its : List (Nat × List Value)} {w : World} (h : Inn s e lo hi vs its w) (hl : lo' ≤ lo) : Inn s e lo' hi vs its w :=
  ⟨h.len, fun j v it h1 h2 => own_base (h.own j v it h1 h2) hl, h.top, h.apart⟩
/-- Two lists of rows, the second made behind the first. -/
theorem Inn.append {s lo mid hi : Nat} {e : TypeId} {vs us : List Value} {its jts : List (Nat × List Value)} {w : World} (h : Inn s e lo mid vs its w) (k : Inn s e mid hi us jts w) (hl : lo ≤ mid) (hh : mid ≤ hi) : Inn s e lo hi (vs ++ us) (its ++ jts) w := by
  have hvl := h.len
  have hul := k.len
  refine ⟨by simp [hvl, hul], fun j v it h1 h2 => ?_, fun j v q h1 h2 => ?_, fun i j v u hij h1 h2 => ?_⟩
  · rcases Nat.lt_or_ge j vs.length with hj | hj
    · rw [List.getElem?_append_left hj] at h1
      rw [List.getElem?_append_left (by omega)] at h2
      exact h.own j v it h1 h2
    · rw [List.getElem?_append_right hj] at h1
      rw [List.getElem?_append_right (by omega), ← hvl] at h2
      exact own_base (k.own _ v it h1 h2) hl
  · rcases Nat.lt_or_ge j vs.length with hj | hj
    · rw [List.getElem?_append_left hj] at h1
      exact Nat.lt_of_lt_of_le (h.top j v q h1 h2) hh
    · rw [List.getElem?_append_right hj] at h1
      exact k.top _ v q h1 h2
  · rcases Nat.lt_or_ge j vs.length with hj | hj
    · rw [List.getElem?_append_left hj] at h2
      rw [List.getElem?_append_left (by omega)] at h1
      exact h.apart i j v u hij h1 h2
    · rw [List.getElem?_append_right hj] at h2
      rcases Nat.lt_or_ge i vs.length with hi1 | hi1
      · rw [List.getElem?_append_left hi1] at h1
        cases hq : v.ownBlock with
        | none => exact .inl rfl
        | some q =>
          refine .inr fun e2 => ?_
          have t1 := h.top i v q h1 hq
          have hj2 : j - vs.length < jts.length := by rw [← hul]; exact (List.getElem?_eq_some_iff.1 h2).1
          have t2 := (k.own _ u _ h2 (List.getElem?_eq_getElem hj2)).lt q e2.symm
          omega
      · rw [List.getElem?_append_right hi1] at h1
        exact k.apart _ _ v u (by omega) h1 h2
theorem SGrid.cell {E : Type} {K : Knd E} {base hi : Nat} {T Te : TypeId} {s g n cap k j : Nat} {es : List E} {e : E} {u : Value} {W : World} (h : SGrid K base hi T Te s (.slice (some ⟨g, 0, none⟩) n cap) es W) (hk : es[k]? = some e) (hj : (K.vs e)[j]? = some u) : W.cell? ⟨g, k * K.s0 + j, none⟩ = some u := by
  have hj2 : j < K.s0 := by rw [← K.vs_len e]; exact (List.getElem?_eq_some_iff.1 hj).1
  have hk2 := (List.getElem?_eq_some_iff.1 hk).1
  have hlt : k * K.s0 + j < es.length * K.s0 := by
    have : (k + 1) * K.s0 ≤ es.length * K.s0 := Nat.mul_le_mul_right _ hk2
    rw [Nat.succ_mul] at this
    omega
  have hl : n = es.length := by
    obtain ⟨A, c, e1⟩ := own_form h.own
    injection e1
  have ho := h.own
  rw [← hl] at ho hlt
  rw [ho.cellAt _ hlt, rows_at K.vs_len hk hj2]
  exact hj
theorem SGrid.thaw {E : Type} {K : Knd E} {base hi : Nat} {T Te : TypeId} {s g n cap : Nat} {es : List E} {W : World} (h : SGrid K base hi T Te s (.slice (some ⟨g, 0, none⟩) n cap) es W) (i : Nat) : W.frozen? ⟨g, i, none⟩ = false := by
  have hl : n = es.length := by
    obtain ⟨A, c, e1⟩ := own_form h.own
    injection e1
  have ho := h.own
  rw [← hl] at ho
  exact ho.frozenAt i
theorem SGrid.addr {E : Type} {K : Knd E} {base hi : Nat} {T Te : TypeId} {s n : Nat} {V : Value} {es : List E} {W : World} (h : SGrid K base hi T Te s V es W) (hn : es.length = n) (h0 : 0 < n) : ∃ g cap, V = .slice (some ⟨g, 0, none⟩) n cap := by
  have ho := h.own
  rw [hn] at ho
  obtain ⟨A, c, rfl⟩ := own_form ho
  obtain ⟨g, rfl, _, _⟩ := own_addr0 ho h0
  exact ⟨g, c, rfl⟩
section
variable {E : Type} {K : Knd E} {base hi : Nat} {T Te : TypeId} {s n c : Nat} {es : List E} {W : World}
theorem SGrid.len {A : Option Addr} (h : SGrid K base hi T Te s (.slice A n c) es W) : n = es.length := by
  obtain ⟨A', c', e1⟩ := own_form h.own
  injection e1
theorem SGrid.argsN {A : Option Addr} (h : SGrid K base hi T Te s (.slice A n c) es W) : Args K.s0 W A n (rows K.vs es) := by
  have ho := h.own
  rw [← h.len] at ho
  exact args_of_own ho
theorem SGrid.slN {g : Nat} (h : SGrid K base hi T Te s (.slice (some ⟨g, 0, none⟩) n c) es W) : Sl W g 0 (rows K.vs es) := by
  have ho := h.own
  rw [← h.len] at ho
  exact sl_of_own ho
end
end Go.Proofs.YtjggkgdojhlhpaaGreat

/- Contracts of the laws' helpers on []int64: copy, compare, mark, look at the marks. For slices of at most 1048576 elements. -/
namespace Go.Proofs.YtjggkgdojhlhpaaGreat
open Go.RowKit

theorem infoInt64S : (Tryz.prog.info? 2).map (fun i => (i.zero, i.size, i.bytes)) = some (some (Value.int .i64 0), 1, 8) := by kernel_rfl

set_option maxHeartbeats 400000 in
theorem toInt64S_any (A : Option Addr) (n c : Nat) (xs : List Int) (w : World) (ha : Arg w A n (xs.map (Value.int .i64))) (hn : n ≤ 1048576) :
    Calls Tryz.prog 7 #[.slice A n c] w fun e w' => e = .returned (.slice (some ⟨w.heap.size, 0, none⟩) n n) ∧
      w'.ownsRow w.heap.size 2 1 (.slice (some ⟨w.heap.size, 0, none⟩) n n) n (xs.map (Value.int .i64)) ∧ Below w.heap.size w w' := by
  have hmk := fun W => run_make_row' (P := Tryz.prog) 23 2 (Value.int .i64 0) 8 Tryz.underlying23 infoInt64S rfl .i64 .i64 n (by omega) (by omega) W
  have hrow0 := World.rowIs_made w (Value.int .i64 0) n 2
  have hB0 : Below w.heap.size w (w.alloc (.cells (madeCells #[Value.int .i64 0] n) 2)) := (Below.refl _ _).alloc (Nat.le_refl _) _
  go_enter Tryz.func7, Tryz.ntmps7
  go_wp2
  clear hmk
  go_loopw [4] (fun i wr => ∃ k : Nat, k ≤ n ∧ i = .int .i64 k ∧ wr.rowIs w.heap.size 2 n (fun j => if j < k then (xs.map (Value.int .i64)).getD j undef else (Value.int .i64 0)) ∧ Below w.heap.size w wr) (fun i _ => n - (intOf i).toNat)
  case atStart => exact ⟨0, Nat.zero_le _, rfl, hrow0.congr (fun i _ => by simp), hB0⟩
  case round =>
    obtain ⟨k, hk, rfl, hrow, hB⟩ := hrel
    clear hrow0 hB0
    by_cases hlt : k < n
    · obtain ⟨b, off, rfl, hs⟩ := ha.sl hlt
      obtain ⟨x, HX, hx⟩ := map_at (Value.int .i64) xs (k := k) (by have := ha.1; simp at this; omega)
      have hca := (hs.below' hB).at hx
      have hco : wr.cell? ⟨w.heap.size, k, none⟩ = some (Value.int .i64 0) := by simpa using hrow.cell hlt
      have hfo := hrow.frozen k
      have HR := Lib.hid (hrow.set k ((Value.int .i64) x))
      have HB := Lib.hid (hB.setCell (p := ⟨w.heap.size, k, none⟩) (Nat.le_refl _) ((Value.int .i64) x))
      clear hx hrow hB ha hs
      go_wp2
      go_roundw
      case rel =>
        refine ⟨k + 1, by omega, by go_num, HR.out.congr (fun i hi => ?_), HB.out⟩
        exact upd_at ((Value.int .i64)) xs k i x HX.out _
      case measure => simp [intOf]; omega
    · go_wp2
      go_ret
      have hlen := ha.1
      refine ⟨rfl, own_of_rowIs hrow (Nat.le_refl _) (by unfold maxLen; omega) hlen (fun j u hu => ?_), hB⟩
      have hj : j < n := by rw [← hlen]; exact (List.getElem?_eq_some_iff.1 hu).1
      rw [if_pos (by omega), List.getD_eq_getElem?_getD, hu]; rfl

set_option maxHeartbeats 400000 in
theorem eqInt64S_any (A B : Option Addr) (n m c d : Nat) (xs ys : List Int) (w : World) (ha : Arg w A n (xs.map (Value.int .i64))) (hb : Arg w B m (ys.map (Value.int .i64))) (hn : n ≤ 4194304) (hm : m ≤ 4194304) :
    Calls Tryz.prog 10 #[.slice A n c, .slice B m d] w fun e w' => e = .returned (.bool (decide (xs = ys))) ∧ ∃ q, w' = w.drewN q := by
  have HA := Lib.hid ha.1
  have HB := Lib.hid hb.1
  by_cases hnm : n = m
  · subst hnm
    go_enter Tryz.func10, Tryz.ntmps10
    go_wp2
    go_loopw [5] (fun i wr => ∃ k q : Nat, k ≤ n ∧ i = .int .i64 k ∧ wr = w.drewN q ∧ Hid (xs.take k = ys.take k)) (fun i _ => n - (intOf i).toNat)
    case atStart => exact ⟨0, 0, Nat.zero_le _, rfl, rfl, rfl⟩
    case round =>
      obtain ⟨k, q, hk, rfl, rfl, HR⟩ := hrel
      by_cases hlt : k < n
      · obtain ⟨b1, o1, rfl, hs1⟩ := ha.sl hlt
        obtain ⟨b2, o2, rfl, hs2⟩ := hb.sl hlt
        obtain ⟨x, HX, hx⟩ := map_at (Value.int .i64) xs (k := k) (by have := HA.out; simp at this; omega)
        obtain ⟨y, HY, hy⟩ := map_at (Value.int .i64) ys (k := k) (by have := HB.out; simp at this; omega)
        have hca := hs1.at hx
        have hcb := hs2.at hy
        clear hx hy hs1 hs2 ha hb
        by_cases e : x = y
        · subst e; have hz : (x != x) = false := by simp
          go_wp2
          go_quiet (fail)
          go_wp2
          go_roundw
          case rel => exact ⟨k + 1, _, by omega, by go_num, rfl, take_succ_eq HR.out HX.out HY.out rfl⟩
          case measure => simp [intOf]; omega
        · have hz : (x != y) = true := by simpa using e
          have HE := Lib.hid e
          clear e
          go_wp2
          go_quiet (fail)
          go_wp2
          go_ret
          exact ⟨ret_bool (by simp [ne_of_at HX.out HY.out HE.out]), by first | exact ⟨_, rfl⟩ | exact ⟨_, World.drewN_drewN _ _ _⟩⟩
      · go_wp2
        go_ret
        refine ⟨ret_bool ?_, _, rfl⟩
        have h1 := HR.out
        have h2 := HA.out
        have h3 := HB.out
        simp only [List.length_map] at h2 h3
        rw [List.take_of_length_le (by omega), List.take_of_length_le (by omega)] at h1
        simp [h1]
  · have hne : ((n : Int) != (m : Int)) = true := by simp; omega
    go_enter Tryz.func10, Tryz.ntmps10
    go_wp2
    go_ret
    refine ⟨ret_bool ?_, 0, rfl⟩
    have h2 := HA.out
    have h3 := HB.out
    simp only [List.length_map] at h2 h3
    symm
    apply decide_eq_false
    rintro rfl
    omega

def mkInt64S (k : Int) : Value := .int .i64 k

end Go.Proofs.YtjggkgdojhlhpaaGreat
