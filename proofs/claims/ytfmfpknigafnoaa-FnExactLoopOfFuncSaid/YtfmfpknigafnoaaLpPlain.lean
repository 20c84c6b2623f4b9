/- Loop programs of recursive functions: what they are. Plain lemmas. -/
import Derived.Test.YtfmfpknigafnoaaFuncPlain
import Derived.Test.YtfmfpknigafnoaaTermMore
namespace Go.Proofs.Ytfmfpknigafnoaa
set_option linter.all false

/-- Where the first function of a row of functions ends. -/
def endL (l : List R3) : Nat := (tPosAt fMany 1 0 l).toNat
/-- The functions of a row, m of them. -/
def cut : Nat → List R3 → List (List R3)
  | 0, _ => []
  | m + 1, l => l.take (endL l) :: cut m (l.drop (endL l))
theorem cut_len : ∀ (m : Nat) (l : List R3), (cut m l).length = m
  | 0, _ => rfl
  | m + 1, l => by rw [cut, List.length_cons, cut_len]
theorem fRun_end (l : List R3) : ∀ (st : List Int) (r : List R3), fRun st l = some r → ∃ q : Nat, q ≤ l.length ∧ tPosAt fMany st.length 0 l = (q : Int) ∧ r = l.drop q ∧ fRun st (l.take q) = some [] := by
  induction l with
  | nil =>
    intro st r h
    cases st with
    | nil => rw [fRun_nil] at h; injection h with h; exact ⟨0, by simp, by rw [List.length_nil, tPosAt_zero], h.symm, by rw [List.take_nil, fRun_nil]⟩
    | cons a st => rw [fRun_none] at h; cases h
  | cons x l ih =>
    intro st r h
    cases st with
    | nil => rw [fRun_nil] at h; injection h with h; exact ⟨0, by simp, by rw [List.length_nil, tPosAt_zero], h.symm, by rw [List.take_zero, fRun_nil]⟩
    | cons a st =>
      by_cases hh : (a < 0 ∨ x.b = a) ∧ fOkN x = true
      · rw [fRun_cons hh] at h
        obtain ⟨q, h1, h2, h3, h4⟩ := ih _ _ h
        refine ⟨q + 1, by simp; omega, ?_, by rw [List.drop_succ_cons]; exact h3, by rw [List.take_succ_cons, fRun_cons hh]; exact h4⟩
        rw [List.length_cons, tPosAt_succ]
        rw [List.length_append, fFols_len hh.2] at h2
        have h5 := tPosAt_from (q := q) (k := 0) (by rw [h2]; simp) (0 + 1)
        rw [Nat.add_comm st.length, h5]
        congr 1
        omega
      · rw [fRun_bad hh] at h; cases h
theorem fRun_wild {a : Int} {l r : List R3} (h : fRun [a] l = some r) : fRun [-1] l = some r := by
  cases l with
  | nil => rw [fRun_none] at h; cases h
  | cons x l =>
    by_cases hh : (a < 0 ∨ x.b = a) ∧ fOkN x = true
    · rw [fRun_cons hh] at h; rw [fRun_cons ⟨.inl (by decide), hh.2⟩]; exact h
    · rw [fRun_bad hh] at h; cases h
theorem fRun_one {a : Int} {st : List Int} {l r : List R3} (h : fRun (a :: st) l = some r) : endL l ≤ l.length ∧ 0 < endL l ∧ tPosAt fMany 1 0 l = (endL l : Int) ∧ fRun [a] l = some (l.drop (endL l)) ∧ fRun [a] (l.take (endL l)) = some [] ∧ fRun st (l.drop (endL l)) = some r := by
  rw [show a :: st = [a] ++ st from rfl, fRun_app] at h
  cases h1 : fRun [a] l with
  | none => rw [h1] at h; cases h
  | some r1 =>
    rw [h1] at h
    obtain ⟨q, g1, g2, g3, g4⟩ := fRun_end l _ _ h1
    have hq : endL l = q := by unfold endL; rw [show ([a] : List Int).length = 1 from rfl] at g2; rw [g2]; simp
    obtain ⟨q2, s1, s2, s3⟩ := fRun_suffix l _ _ h1
    rw [hq]
    refine ⟨g1, ?_, g2, by rw [g3], g4, by rw [← g3]; exact h⟩
    rcases Nat.eq_zero_or_pos q with h0 | h0
    · subst h0
      rw [List.take_zero, fRun_none] at g4; cases g4
    · exact h0
/-- Each part of a row has the arity that is asked of it. -/
theorem cut_run : ∀ (st : List Int) (l : List R3), fRun st l = some [] → ((cut st.length l).map List.length).sum = l.length ∧ ∀ (i : Nat) (a : Int) (p : List R3), st[i]? = some a → (cut st.length l)[i]? = some p → fRun [a] p = some [] ∧ p.length ≤ l.length
  | [], l, h => by
    rw [fRun_nil] at h; injection h with h; subst h
    exact ⟨rfl, by simp⟩
  | a :: st, l, h => by
    obtain ⟨h1, h2, h3, h4, h5, h6⟩ := fRun_one h
    obtain ⟨i1, i2⟩ := cut_run st _ h6
    rw [List.length_drop] at i1 i2
    rw [List.length_cons, cut]
    refine ⟨by rw [List.map_cons, List.sum_cons, i1, List.length_take]; omega, fun i b p hb hp => ?_⟩
    cases i with
    | zero => simp at hb hp; subst hb hp; exact ⟨h5, by rw [List.length_take]; omega⟩
    | succ i =>
      rw [List.getElem?_cons_succ] at hb hp
      obtain ⟨j1, j2⟩ := i2 i b p hb hp
      exact ⟨j1, by omega⟩

/-- The loop program of a function for some variables, into one, with free ones from a number on. -/
def lpF : Nat → List R3 → List Int → Int → Int → List R3
  | 0, _, _, _, _ => []
  | _ + 1, [], _, _, _ => []
  | N + 1, x :: l, xs, out, v =>
    if x.a = 0 then [⟨0, out, 0⟩]
    else if x.a = 1 then [⟨2, out, xs.getD 0 0⟩, ⟨1, out, 0⟩]
    else if x.a = 2 then [⟨2, out, xs.getD x.c.toNat 0⟩]
    else if x.a = 3 then ((List.range x.c.toNat).flatMap fun t => lpF N ((cut (fMany x) l).getD (t + 1) []) xs (v + (t : Int)) (v + x.c)) ++ lpF N ((cut (fMany x) l).getD 0 []) ((List.range x.c.toNat).map fun t : Nat => v + (t : Int)) out (v + x.c)
    else if x.a = 4 then
      lpF N ((cut (fMany x) l).getD 0 []) (xs.drop 1) v (v + 3) ++ (⟨0, v + 1, 0⟩ :: ⟨3, xs.getD 0 0, ((lpF N ((cut (fMany x) l).getD 1 []) ((v + 1) :: v :: xs.drop 1) (v + 2) (v + 3) ++ ([⟨2, v, v + 2⟩, ⟨1, v + 1, 0⟩] : List R3)).length : Nat)⟩ ::
        ((lpF N ((cut (fMany x) l).getD 1 []) ((v + 1) :: v :: xs.drop 1) (v + 2) (v + 3) ++ ([⟨2, v, v + 2⟩, ⟨1, v + 1, 0⟩] : List R3)) ++ [⟨2, out, v⟩]))
    else
      ⟨0, v, 0⟩ :: ⟨0, v + 1, 0⟩ :: ⟨1, v + 1, 0⟩ :: ⟨4, v + 1, (((⟨2, v + 2, v⟩ : R3) :: (lpF N ((cut (fMany x) l).getD 0 []) (v :: xs) (v + 1) (v + 3) ++ [⟨1, v, 0⟩])).length : Nat)⟩ ::
        (((⟨2, v + 2, v⟩ : R3) :: (lpF N ((cut (fMany x) l).getD 0 []) (v :: xs) (v + 1) (v + 3) ++ [⟨1, v, 0⟩])) ++ [⟨2, out, v + 2⟩])
section
variable {N : Nat} {x : R3} {l : List R3} {xs : List Int} {out v : Int}
theorem lp0 (h : x.a = 0) : lpF (N + 1) (x :: l) xs out v = [⟨0, out, 0⟩] := by rw [lpF, if_pos h]
theorem lp1 (h : x.a = 1) : lpF (N + 1) (x :: l) xs out v = [⟨2, out, xs.getD 0 0⟩, ⟨1, out, 0⟩] := by rw [lpF, if_neg (by omega), if_pos h]
theorem lp2 (h : x.a = 2) : lpF (N + 1) (x :: l) xs out v = [⟨2, out, xs.getD x.c.toNat 0⟩] := by rw [lpF, if_neg (by omega), if_neg (by omega), if_pos h]
/-- The commands of the first t inner functions. -/
def inn (N : Nat) (ps : List (List R3)) (xs : List Int) (v f : Int) (t : Nat) : List R3 := (List.range t).flatMap fun t => lpF N (ps.getD (t + 1) []) xs (v + (t : Int)) f
def vars (v : Int) (t : Nat) : List Int := (List.range t).map fun t : Nat => v + (t : Int)
theorem inn_zero (N : Nat) (ps : List (List R3)) (xs : List Int) (v f : Int) : inn N ps xs v f 0 = [] := rfl
theorem inn_succ (N : Nat) (ps : List (List R3)) (xs : List Int) (v f : Int) (t : Nat) : inn N ps xs v f (t + 1) = inn N ps xs v f t ++ lpF N (ps.getD (t + 1) []) xs (v + (t : Int)) f := by
  unfold inn; rw [List.range_succ, List.flatMap_append]; simp
theorem vars_succ (v : Int) (t : Nat) : vars v (t + 1) = vars v t ++ [v + (t : Int)] := by unfold vars; rw [List.range_succ, List.map_append]; rfl
theorem vars_len (v : Int) (t : Nat) : (vars v t).length = t := by simp [vars]
theorem lp3 (h : x.a = 3) {k : Nat} (hk : x.c = (k : Int)) : lpF (N + 1) (x :: l) xs out v = inn N (cut (fMany x) l) xs v (v + (k : Int)) k ++ lpF N ((cut (fMany x) l).getD 0 []) (vars v k) out (v + (k : Int)) := by
  rw [lpF, if_neg (by omega), if_neg (by omega), if_neg (by omega), if_pos h, hk]
  simp [inn, vars]
theorem lp4 (h : x.a = 4) {p q : List R3} (hp : (cut (fMany x) l).getD 0 [] = p) (hq : (cut (fMany x) l).getD 1 [] = q) : lpF (N + 1) (x :: l) xs out v =
    lpF N p (xs.drop 1) v (v + 3) ++ (⟨0, v + 1, 0⟩ :: ⟨3, xs.getD 0 0, ((lpF N q ((v + 1) :: v :: xs.drop 1) (v + 2) (v + 3) ++ ([⟨2, v, v + 2⟩, ⟨1, v + 1, 0⟩] : List R3)).length : Nat)⟩ ::
        ((lpF N q ((v + 1) :: v :: xs.drop 1) (v + 2) (v + 3) ++ ([⟨2, v, v + 2⟩, ⟨1, v + 1, 0⟩] : List R3)) ++ [⟨2, out, v⟩])) := by
  subst hp hq
  rw [lpF, if_neg (by omega), if_neg (by omega), if_neg (by omega), if_neg (by omega), if_pos h]
theorem lp5 (h : x.a = 5) {p : List R3} (hp : (cut (fMany x) l).getD 0 [] = p) : lpF (N + 1) (x :: l) xs out v =
    ⟨0, v, 0⟩ :: ⟨0, v + 1, 0⟩ :: ⟨1, v + 1, 0⟩ :: ⟨4, v + 1, (((⟨2, v + 2, v⟩ : R3) :: (lpF N p (v :: xs) (v + 1) (v + 3) ++ [⟨1, v, 0⟩])).length : Nat)⟩ ::
        (((⟨2, v + 2, v⟩ : R3) :: (lpF N p (v :: xs) (v + 1) (v + 3) ++ [⟨1, v, 0⟩])) ++ [⟨2, out, v + 2⟩]) := by
  subst hp
  rw [lpF, if_neg (by omega), if_neg (by omega), if_neg (by omega), if_neg (by omega), if_neg (by omega)]
end
/-- The parts of a function that is valid. -/
theorem parts_of {x : R3} {l : List R3} {a : Int} (h : fRun [a] (x :: l) = some []) : fOkN x = true ∧ (a < 0 ∨ x.b = a) ∧ fRun (fFols x) l = some [] := by
  by_cases hh : (a < 0 ∨ x.b = a) ∧ fOkN x = true
  · rw [fRun_cons hh, List.append_nil] at h; exact ⟨hh.2, hh.1, h⟩
  · rw [fRun_bad hh] at h; cases h
theorem part_at {x : R3} {l : List R3} (hok : fOkN x = true) (h : fRun (fFols x) l = some []) {i : Nat} {a : Int} (ha : (fFols x)[i]? = some a) : ∃ p, (cut (fMany x) l)[i]? = some p ∧ (cut (fMany x) l).getD i [] = p ∧ fRun [a] p = some [] ∧ p.length ≤ l.length := by
  have hlen := fFols_len hok
  obtain ⟨h1, h2⟩ := cut_run _ _ h
  rw [hlen] at h1 h2
  have hi : i < (cut (fMany x) l).length := by rw [cut_len, ← hlen]; exact (List.getElem?_eq_some_iff.1 ha).1
  have hp : (cut (fMany x) l)[i]? = some ((cut (fMany x) l)[i]) := List.getElem?_eq_getElem hi
  obtain ⟨h3, h4⟩ := h2 i a _ ha hp
  exact ⟨_, hp, by rw [List.getD_eq_getElem?_getD, hp]; rfl, h3, h4⟩
theorem sum_two {p q : Nat} {ls : List Nat} (h0 : ls[0]? = some p) (h1 : ls[1]? = some q) : p + q ≤ ls.sum := by
  match ls, h0, h1 with
  | a :: b :: r, h0, h1 => simp at h0 h1; subst h0 h1; simp only [List.sum_cons]; omega
theorem inn_len (N : Nat) (ps : List (List R3)) (xs : List Int) (v f : Int) (hb : ∀ (p : List R3) (xs : List Int) (o u : Int), (lpF N p xs o u).length ≤ 8 * p.length) : ∀ t : Nat, (inn N ps xs v f t).length ≤ 8 * ((List.range t).map fun i => (ps.getD (i + 1) []).length).sum
  | 0 => by rw [inn_zero]; simp
  | t + 1 => by
    rw [inn_succ, List.length_append, List.range_succ, List.map_append, List.sum_append]
    have h1 := inn_len N ps xs v f hb t
    have h2 := hb (ps.getD (t + 1) []) xs (v + (t : Int)) f
    simp only [List.map_cons, List.map_nil, List.sum_cons, List.sum_nil]
    omega
theorem sum_tail : ∀ (ps : List (List R3)) (t : Nat), ((List.range t).map fun i => (ps.getD i []).length).sum ≤ (ps.map List.length).sum
  | [], t => by
    have : ((List.range t).map fun i => (([] : List (List R3)).getD i []).length) = (List.range t).map fun _ => 0 := by simp
    rw [this]
    induction t with
    | zero => simp
    | succ t ih => rw [List.range_succ, List.map_append, List.sum_append]; simpa using ih (by simp)
  | p :: ps, 0 => by simp
  | p :: ps, t + 1 => by
    rw [List.range_succ_eq_map, List.map_cons, List.sum_cons, List.map_map, List.map_cons, List.sum_cons]
    have := sum_tail ps t
    have e : ((fun i => ((p :: ps).getD i []).length) ∘ Nat.succ) = fun i => (ps.getD i []).length := rfl
    rw [e]
    have e2 : ((p :: ps).getD 0 []).length = p.length := rfl
    rw [e2]
    omega
theorem cut_sum : ∀ (m : Nat) (l : List R3), ((cut m l).map List.length).sum ≤ l.length
  | 0, l => by simp [cut]
  | m + 1, l => by
    rw [cut, List.map_cons, List.sum_cons]
    have := cut_sum m (l.drop (endL l))
    rw [List.length_drop] at this
    rw [List.length_take]
    omega
theorem lpF_len (N : Nat) : ∀ (p : List R3) (xs : List Int) (o u : Int), (lpF N p xs o u).length ≤ 8 * p.length := by
  induction N with
  | zero => intro p xs o u; simp [lpF]
  | succ N ih =>
    intro p xs o u
    cases p with
    | nil => simp [lpF]
    | cons x l =>
      have hs := cut_sum (fMany x) l
      have hd : ∀ i, ((cut (fMany x) l).getD i []).length ≤ l.length := by
        intro i
        have := sum_tail (cut (fMany x) l) (i + 1)
        rw [List.range_succ, List.map_append, List.sum_append] at this
        simp only [List.map_cons, List.map_nil, List.sum_cons, List.sum_nil] at this
        omega
      have h2 : ((cut (fMany x) l).getD 0 []).length + ((cut (fMany x) l).getD 1 []).length ≤ l.length := by
        have := sum_tail (cut (fMany x) l) 2
        simp only [List.range_succ, List.range_zero, List.nil_append, List.map_append, List.map_cons, List.map_nil, List.sum_append, List.sum_cons, List.sum_nil] at this
        omega
      rw [lpF]
      split
      · simp; omega
      · split
        · simp; omega
        · split
          · simp; omega
          · split
            · have h3 := inn_len N (cut (fMany x) l) xs u (u + x.c) ih x.c.toNat
              have h4 := ih ((cut (fMany x) l).getD 0 []) (vars u x.c.toNat) o (u + x.c)
              have h5 := sum_tail (cut (fMany x) l) (x.c.toNat + 1)
              rw [List.range_succ_eq_map, List.map_cons, List.sum_cons, List.map_map] at h5
              have e : ((fun i => ((cut (fMany x) l).getD i []).length) ∘ Nat.succ) = fun i => ((cut (fMany x) l).getD (i + 1) []).length := rfl
              rw [e] at h5
              unfold inn at h3
              unfold vars at h4
              rw [List.length_append, List.length_cons]
              omega
            · split
              · have h3 := ih ((cut (fMany x) l).getD 0 []) (xs.drop 1) u (u + 3)
                have h4 := ih ((cut (fMany x) l).getD 1 []) ((u + 1) :: u :: xs.drop 1) (u + 2) (u + 3)
                simp only [List.length_append, List.length_cons, List.length_nil]
                omega
              · have h3 := ih ((cut (fMany x) l).getD 0 []) (u :: xs) (u + 1) (u + 3)
                have h4 := hd 0
                simp only [List.length_append, List.length_cons, List.length_nil]
                omega
end Go.Proofs.Ytfmfpknigafnoaa
