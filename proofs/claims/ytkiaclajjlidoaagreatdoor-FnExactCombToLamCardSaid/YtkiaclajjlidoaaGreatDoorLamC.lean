/- From lambda terms to combinator terms: what it gives, and that the two ways of naming bound variables agree. Plain lemmas. -/
import Derived.Test.YtkiaclajjlidoaaGreatDoorAbsC
namespace Go.Proofs.YtkiaclajjlidoaaGreatDoor
set_option linter.all false

def lFol (x : R2) : Nat := if x.a = 1 then 1 else if x.a = 2 then 2 else 0
theorem lFol_le (x : R2) : lFol x ≤ 2 := by
  unfold lFol
  split
  · omega
  · split <;> omega
theorem lFol_0 {x : R2} (h : x.a = 0) : lFol x = 0 := by unfold lFol; rw [h]; rfl
theorem lFol_1 {x : R2} (h : x.a = 1) : lFol x = 1 := by unfold lFol; rw [if_pos h]
theorem lFol_2 {x : R2} (h : x.a = 2) : lFol x = 2 := by unfold lFol; rw [h]; rfl
def lOk (x : R2) : Bool := (decide (x.a = 0) && inB x.b 0 399) || ((decide (x.a = 1) || decide (x.a = 2)) && decide (x.b = 0))
def validT (xs : List R2) : Bool := inB xs.length 1 400 && (xs.all lOk && fit lFol 1 xs)
theorem lOk_cases {x : R2} (h : lOk x = true) : (x.a = 0 ∧ 0 ≤ x.b ∧ x.b ≤ 399) ∨ x.a = 1 ∨ x.a = 2 := by
  unfold lOk at h
  simp only [Bool.or_eq_true, Bool.and_eq_true, decide_eq_true_eq, inB_iff] at h
  omega

/-- A term that is not too long. -/
def capC (c : List R2) : Option (List R2) := if c.length ≤ 400 then some c else none
/-- Where the second part of an application begins. -/
def midL (l : List R2) : Nat := (tPos lFol 0 l).toNat
def lamC (ix : Int → Int → Int) (bx : Int → Int) (short : Bool) (dep : Int) (t : List R2) : Option (List R2) :=
  match t with
  | [] => none
  | x :: l =>
    if x.a = 0 then some [⟨4, ix x.b dep⟩]
    else if x.a = 1 then
      match lamC ix bx short (dep + 1) l with
      | none => none
      | some c => capC (absC (bx dep) short c)
    else
      match lamC ix bx short dep (l.take (midL l)) with
      | none => none
      | some d =>
        match lamC ix bx short dep (l.drop (midL l)) with
        | none => none
        | some e => capC (⟨0, 0⟩ :: (d ++ e))
  termination_by t.length
  decreasing_by all_goals simp_wf; try omega
section
variable (ix : Int → Int → Int) (bx : Int → Int) (short : Bool) (dep : Int)
theorem lam_var {x : R2} {l : List R2} (h : x.a = 0) : lamC ix bx short dep (x :: l) = some [⟨4, ix x.b dep⟩] := by rw [lamC, if_pos h]
theorem lam_abs {x : R2} {l : List R2} (h : x.a = 1) : lamC ix bx short dep (x :: l) = match lamC ix bx short (dep + 1) l with | none => none | some c => capC (absC (bx dep) short c) := by
  rw [lamC, if_neg (by omega), if_pos h]
theorem lam_abs_none {x : R2} {l : List R2} (h : x.a = 1) (h1 : lamC ix bx short (dep + 1) l = none) : lamC ix bx short dep (x :: l) = none := by rw [lam_abs _ _ _ _ h, h1]
theorem lam_abs_some {x : R2} {l c : List R2} (h : x.a = 1) (h1 : lamC ix bx short (dep + 1) l = some c) : lamC ix bx short dep (x :: l) = capC (absC (bx dep) short c) := by rw [lam_abs _ _ _ _ h, h1]
theorem lam_app {x : R2} {l : List R2} (h0 : x.a ≠ 0) (h1 : x.a ≠ 1) : lamC ix bx short dep (x :: l) = match lamC ix bx short dep (l.take (midL l)) with | none => none | some d => (match lamC ix bx short dep (l.drop (midL l)) with | none => none | some e => capC (⟨0, 0⟩ :: (d ++ e))) := by
  rw [lamC, if_neg h0, if_neg h1]
theorem lam_app_none1 {x : R2} {l : List R2} (h : x.a = 2) (h1 : lamC ix bx short dep (l.take (midL l)) = none) : lamC ix bx short dep (x :: l) = none := by rw [lam_app _ _ _ _ (by omega) (by omega), h1]
theorem lam_app_none2 {x : R2} {l d : List R2} (h : x.a = 2) (h1 : lamC ix bx short dep (l.take (midL l)) = some d) (h2 : lamC ix bx short dep (l.drop (midL l)) = none) : lamC ix bx short dep (x :: l) = none := by rw [lam_app _ _ _ _ (by omega) (by omega), h1, h2]
theorem lam_app_some {x : R2} {l d e : List R2} (h : x.a = 2) (h1 : lamC ix bx short dep (l.take (midL l)) = some d) (h2 : lamC ix bx short dep (l.drop (midL l)) = some e) : lamC ix bx short dep (x :: l) = capC (⟨0, 0⟩ :: (d ++ e)) := by rw [lam_app _ _ _ _ (by omega) (by omega), h1, h2]
end
theorem capC_yes {c : List R2} (h : c.length ≤ 400) : capC c = some c := by rw [capC, if_pos h]
theorem capC_no {c : List R2} (h : 400 < c.length) : capC c = none := by rw [capC, if_neg (by omega)]
theorem capC_some {c d : List R2} (h : capC c = some d) : c = d ∧ d.length ≤ 400 := by
  unfold capC at h
  split at h
  · injection h with h; subst h; exact ⟨rfl, by assumption⟩
  · cases h

theorem fit_app {α : Type} (fol : α → Nat) (l : List α) : ∀ (a b : Nat) (m : List α), fit fol a l = true → fit fol b m = true → fit fol (a + b) (l ++ m) = true := by
  induction l with
  | nil =>
    intro a b m h1 h2
    cases a with
    | zero => simpa using h2
    | succ a => rw [fit_s0] at h1; cases h1
  | cons x l ih =>
    intro a b m h1 h2
    cases a with
    | zero => rw [fit_0c] at h1; cases h1
    | succ a =>
      rw [fit_sc] at h1
      rw [show a + 1 + b = (a + b) + 1 by omega, List.cons_append, fit_sc, show a + b + fol x = (a + fol x) + b by omega]
      exact ih _ _ _ h1 h2
theorem fit_one0 {k v : Int} (h : k ≠ 0) : fit kFol 1 [⟨k, v⟩] = true := by
  rw [show (1 : Nat) = 0 + 1 from rfl, fit_sc]
  unfold kFol
  rw [if_neg h]
  exact fit_00 kFol
theorem fit_ap {d e : List R2} (h1 : fit kFol 1 d = true) (h2 : fit kFol 1 e = true) : fit kFol 1 (⟨0, 0⟩ :: (d ++ e)) = true := by
  rw [show (1 : Nat) = 0 + 1 from rfl, fit_sc]
  exact fit_app kFol d 1 1 e h1 h2
theorem absC_fit (k : Int) (short : Bool) (N : Nat) : ∀ c : List R2, c.length ≤ N → fit kFol 1 c = true → fit kFol 1 (absC k short c) = true := by
  induction N with
  | zero => intro c h hf; have := fit_ne kFol c 0 hf; omega
  | succ N ih =>
    intro c h hf
    cases h1 : oneV k c with
    | true => rw [abs_one h1]; exact fit_one0 (by decide)
    | false =>
      cases h2 : hasV k c with
      | false => rw [abs_not h1 h2]; exact fit_ap (d := [⟨2, 0⟩]) (fit_one0 (by decide)) hf
      | true =>
        obtain ⟨q, q1, q2, q3, q4, q5, q6⟩ := abs_parts hf h1 h2
        have hd : (c.drop 1).take (midC c - 1) = (c.drop 1).take q := by rw [q3]; rfl
        have he : c.drop (midC c) = c.drop (q + 1) := by rw [q3]
        have ld : ((c.drop 1).take q).length = q := by rw [List.length_take, List.length_drop]; omega
        have le : (c.drop (q + 1)).length = c.length - (q + 1) := List.length_drop
        cases h3 : (short && oneV k (c.drop (q + 1)) && !hasV k ((c.drop 1).take q)) with
        | true => rw [abs_eta h1 h2 hd he h3]; exact q5
        | false =>
          rw [abs_app h1 h2 hd he h3]
          have i1 := ih _ (by omega) q5
          have i2 := ih _ (by omega) q6
          have := fit_ap (fit_ap (d := [⟨1, 0⟩]) (fit_one0 (by decide)) i1) i2
          simpa using this
/-- Which variables an abstraction has. -/
theorem absC_vars (k : Int) (short : Bool) (N : Nat) : ∀ c : List R2, c.length ≤ N → ∀ x ∈ absC k short c, x.a = 4 → x ∈ c ∧ isV k x = false := by
  induction N with
  | zero =>
    intro c h x hx h4
    have hc : c = [] := List.length_eq_zero_iff.1 (by omega)
    subst hc
    rw [abs_not rfl rfl] at hx
    simp at hx
    rcases hx with rfl | rfl <;> simp at h4
  | succ N ih =>
    intro c h x hx h4
    cases h1 : oneV k c with
    | true => rw [abs_one h1] at hx; simp at hx; subst hx; simp at h4
    | false =>
      cases h2 : hasV k c with
      | false =>
        rw [abs_not h1 h2] at hx
        simp only [List.mem_cons] at hx
        rcases hx with rfl | rfl | hx
        · simp at h4
        · simp at h4
        · refine ⟨hx, ?_⟩
          unfold hasV at h2
          rw [List.any_eq_false] at h2
          simpa using h2 x hx
      | true =>
        have hc : 0 < c.length := by
          cases c with
          | nil => simp [hasV] at h2
          | cons y l => simp
        have hm : 1 ≤ midC c := by unfold midC; omega
        cases h3 : (short && oneV k (c.drop (midC c)) && !hasV k ((c.drop 1).take (midC c - 1))) with
        | true =>
          rw [abs_eta h1 h2 rfl rfl h3] at hx
          refine ⟨List.mem_of_mem_drop (List.mem_of_mem_take hx), ?_⟩
          simp only [Bool.and_eq_true, Bool.not_eq_true'] at h3
          have h5 := h3.2
          unfold hasV at h5
          rw [List.any_eq_false] at h5
          simpa using h5 x hx
        | false =>
          rw [abs_app h1 h2 rfl rfl h3] at hx
          simp only [List.mem_cons, List.mem_append] at hx
          rcases hx with rfl | rfl | rfl | hx | hx
          · simp at h4
          · simp at h4
          · simp at h4
          · obtain ⟨i1, i2⟩ := ih _ (by rw [List.length_take, List.length_drop]; omega) x hx h4
            exact ⟨List.mem_of_mem_drop (List.mem_of_mem_take i1), i2⟩
          · obtain ⟨i1, i2⟩ := ih _ (by rw [List.length_drop]; omega) x hx h4
            exact ⟨List.mem_of_mem_drop i1, i2⟩
/-- Renaming. -/
theorem tPosAt_map {α : Type} (fol : α → Nat) (f : α → α) (hf : ∀ x, fol (f x) = fol x) (l : List α) : ∀ a k : Nat, tPosAt fol a k (l.map f) = tPosAt fol a k l := by
  induction l with
  | nil => intro a k; rfl
  | cons x l ih =>
    intro a k
    cases a with
    | zero => rw [tPosAt_zero, tPosAt_zero]
    | succ a => rw [List.map_cons, tPosAt_succ, tPosAt_succ, hf, ih]
def ren (x : R2) : R2 := if x.a = 4 ∧ x.b < 0 then ⟨4, 399 - x.b⟩ else x
theorem ren_not {x : R2} (h : x.a ≠ 4) : ren x = x := by unfold ren; rw [if_neg (fun h2 => h h2.1)]
theorem ren_a (x : R2) : (ren x).a = x.a := by
  unfold ren
  split
  · rename_i h; exact h.1.symm
  · rfl
theorem ren_fol (x : R2) : kFol (ren x) = kFol x := by unfold kFol; rw [ren_a]
theorem midC_ren (c : List R2) : midC (c.map ren) = midC c := by
  unfold midC tPos
  rw [← List.map_drop, tPosAt_map kFol ren ren_fol]
theorem hasV_ren {k k' : Int} {c : List R2} (h : ∀ x ∈ c, isV k' (ren x) = isV k x) : hasV k' (c.map ren) = hasV k c := by
  unfold hasV
  rw [List.any_map]
  induction c with
  | nil => rfl
  | cons x l ih =>
    rw [List.any_cons, List.any_cons, ih (fun y hy => h y (List.mem_cons_of_mem _ hy))]
    rw [show (isV k' ∘ ren) x = isV k' (ren x) from rfl, h x (by simp)]
theorem oneV_ren {k k' : Int} {c : List R2} (h : ∀ x ∈ c, isV k' (ren x) = isV k x) : oneV k' (c.map ren) = oneV k c := by
  match c, h with
  | [], _ => rfl
  | [x], h => exact h x (by simp)
  | _ :: _ :: _, _ => rfl
theorem absC_ren (k k' : Int) (short : Bool) (N : Nat) : ∀ c : List R2, c.length ≤ N → (∀ x ∈ c, isV k' (ren x) = isV k x) → absC k' short (c.map ren) = (absC k short c).map ren := by
  induction N with
  | zero =>
    intro c h _
    have hc : c = [] := List.length_eq_zero_iff.1 (by omega)
    subst hc
    rw [List.map_nil, abs_not rfl rfl, abs_not rfl rfl]
    rfl
  | succ N ih =>
    intro c h hv
    have e1 := oneV_ren hv
    have e2 := hasV_ren hv
    have em := midC_ren c
    have hvd : ∀ x ∈ (c.drop 1).take (midC c - 1), isV k' (ren x) = isV k x := fun x hx => hv x (List.mem_of_mem_drop (List.mem_of_mem_take hx))
    have hve : ∀ x ∈ c.drop (midC c), isV k' (ren x) = isV k x := fun x hx => hv x (List.mem_of_mem_drop hx)
    have hd : ((c.map ren).drop 1).take (midC (c.map ren) - 1) = ((c.drop 1).take (midC c - 1)).map ren := by rw [em, List.map_take, List.map_drop]
    have he : (c.map ren).drop (midC (c.map ren)) = (c.drop (midC c)).map ren := by rw [em, List.map_drop]
    have e3 := oneV_ren hve
    have e4 := hasV_ren hvd
    cases h1 : oneV k c with
    | true => rw [abs_one (e1.trans h1), abs_one h1]; rfl
    | false =>
      cases h2 : hasV k c with
      | false => rw [abs_not (e1.trans h1) (e2.trans h2), abs_not h1 h2]; rfl
      | true =>
        have hc : 0 < c.length := by
          cases c with
          | nil => simp [hasV] at h2
          | cons y l => simp
        have hm : 1 ≤ midC c := by unfold midC; omega
        cases h3 : (short && oneV k (c.drop (midC c)) && !hasV k ((c.drop 1).take (midC c - 1))) with
        | true => rw [abs_eta (e1.trans h1) (e2.trans h2) hd he (by rw [e3, e4]; exact h3), abs_eta h1 h2 rfl rfl h3]
        | false =>
          rw [abs_app (e1.trans h1) (e2.trans h2) hd he (by rw [e3, e4]; exact h3), abs_app h1 h2 rfl rfl h3]
          rw [ih _ (by rw [List.length_take, List.length_drop]; omega) hvd, ih _ (by rw [List.length_drop]; omega) hve]
          simp only [List.map_cons, List.map_append]
          rfl
def ixI (i d : Int) : Int := i - d
def bxI (d : Int) : Int := -1 - d
def ixS (i d : Int) : Int := if i - d < 0 then 400 + d - 1 - i else i - d
def bxS (d : Int) : Int := 400 + d
theorem midL_le (l : List R2) : midL l ≤ l.length := by
  unfold midL tPos
  have := tPosAt_le lFol l 1 0
  omega
/-- What is true of each term that is given. -/
theorem lamC_facts (short : Bool) (N : Nat) : ∀ (t : List R2) (dep : Int) (c : List R2), t.length ≤ N → t.all lOk = true → 0 ≤ dep → lamC ixI bxI short dep t = some c →
    c.length ≤ 400 ∧ fit kFol 1 c = true ∧ (∀ x ∈ c, x.a = 4 → -dep ≤ x.b ∧ x.b ≤ 399) ∧ lamC ixS bxS short dep t = some (c.map ren) := by
  induction N with
  | zero => intro t dep c h _ _ hc; have : t = [] := List.length_eq_zero_iff.1 (by omega); subst this; rw [lamC] at hc; cases hc
  | succ N ih =>
    intro t dep c h hok hdep hc
    cases t with
    | nil => rw [lamC] at hc; cases hc
    | cons x l =>
      simp only [List.all_cons, Bool.and_eq_true] at hok
      have hx := lOk_cases hok.1
      have hl : l.length ≤ N := by simp at h; omega
      have hall : ∀ m, (l.take m).all lOk = true ∧ (l.drop m).all lOk = true := fun m => ⟨List.all_eq_true.2 fun y hy => List.all_eq_true.1 hok.2 y (List.mem_of_mem_take hy), List.all_eq_true.2 fun y hy => List.all_eq_true.1 hok.2 y (List.mem_of_mem_drop hy)⟩
      by_cases h0 : x.a = 0
      · rw [lam_var _ _ _ _ h0] at hc
        injection hc with hc
        subst hc
        refine ⟨by simp, fit_one0 (by decide), ?_, ?_⟩
        · intro y hy _
          simp at hy
          subst hy
          simp only [ixI]
          omega
        · rw [lam_var _ _ _ _ h0]
          have e : ren ⟨4, ixI x.b dep⟩ = ⟨4, ixS x.b dep⟩ := by
            unfold ixS ixI
            by_cases hn : x.b - dep < 0
            · rw [ren, if_pos ⟨rfl, hn⟩, if_pos hn]
              exact R2.ext' rfl (by show 399 - (x.b - dep) = 400 + dep - 1 - x.b; omega)
            · rw [ren, if_neg (fun h => hn h.2), if_neg hn]
          rw [List.map_cons, List.map_nil, e]
      · by_cases h1 : x.a = 1
        · cases h2 : lamC ixI bxI short (dep + 1) l with
          | none => rw [lam_abs_none _ _ _ _ h1 h2] at hc; cases hc
          | some b =>
            rw [lam_abs_some _ _ _ _ h1 h2] at hc
            obtain ⟨hc, hlen⟩ := capC_some hc
            obtain ⟨f1, f2, f3, f4⟩ := ih l (dep + 1) b hl hok.2 (by omega) h2
            have hv : ∀ y ∈ b, isV (bxS dep) (ren y) = isV (bxI dep) y := by
              intro y hy
              unfold isV bxS bxI
              rw [ren_a]
              by_cases h4 : y.a = 4
              · have := f3 y hy h4
                rw [decide_eq_true h4, Bool.true_and, Bool.true_and]
                unfold ren
                by_cases hn : y.b < 0
                · rw [if_pos ⟨h4, hn⟩]
                  simp only [decide_eq_decide]
                  omega
                · rw [if_neg (fun h => hn h.2)]
                  simp only [decide_eq_decide]
                  omega
              · simp [h4]
            refine ⟨hlen, hc ▸ absC_fit _ short _ b (Nat.le_refl _) f2, ?_, ?_⟩
            · intro y hy h4
              rw [← hc] at hy
              obtain ⟨g1, g2⟩ := absC_vars _ short _ b (Nat.le_refl _) y hy h4
              have := f3 y g1 h4
              unfold isV bxI at g2
              simp [h4] at g2
              omega
            · rw [lam_abs_some _ _ _ _ h1 f4, absC_ren _ _ short _ b (Nat.le_refl _) hv, hc, capC_yes (by simpa using hlen)]
        · have h2' : x.a = 2 := by omega
          cases h2 : lamC ixI bxI short dep (l.take (midL l)) with
          | none => rw [lam_app_none1 _ _ _ _ h2' h2] at hc; cases hc
          | some d =>
            cases h3 : lamC ixI bxI short dep (l.drop (midL l)) with
            | none => rw [lam_app_none2 _ _ _ _ h2' h2 h3] at hc; cases hc
            | some e =>
              rw [lam_app_some _ _ _ _ h2' h2 h3] at hc
              obtain ⟨hc, hlen⟩ := capC_some hc
              obtain ⟨f1, f2, f3, f4⟩ := ih _ dep d (by rw [List.length_take]; omega) (hall _).1 hdep h2
              obtain ⟨g1, g2, g3, g4⟩ := ih _ dep e (by rw [List.length_drop]; omega) (hall _).2 hdep h3
              refine ⟨hlen, hc ▸ fit_ap f2 g2, ?_, ?_⟩
              · intro y hy h4
                rw [← hc] at hy
                simp only [List.mem_cons, List.mem_append] at hy
                rcases hy with rfl | hy | hy
                · simp at h4
                · exact f3 y hy h4
                · exact g3 y hy h4
              · rw [lam_app_some _ _ _ _ h2' f4 g4, ← hc]
                have : (⟨0, 0⟩ :: (d.map ren ++ e.map ren) : List R2) = (⟨0, 0⟩ :: (d ++ e) : List R2).map ren := by simp only [List.map_cons, List.map_append]; rfl
                rw [this, capC_yes (by rw [List.length_map, hc]; exact hlen)]
theorem lamC_none (short : Bool) (N : Nat) : ∀ (t : List R2) (dep : Int), t.length ≤ N → t.all lOk = true → 0 ≤ dep → lamC ixI bxI short dep t = none → lamC ixS bxS short dep t = none := by
  induction N with
  | zero => intro t dep h _ _ hc; have : t = [] := List.length_eq_zero_iff.1 (by omega); subst this; rw [lamC]
  | succ N ih =>
    intro t dep h hok hdep hc
    cases t with
    | nil => rw [lamC]
    | cons x l =>
      simp only [List.all_cons, Bool.and_eq_true] at hok
      have hx := lOk_cases hok.1
      have hl : l.length ≤ N := by simp at h; omega
      have hall : ∀ m, (l.take m).all lOk = true ∧ (l.drop m).all lOk = true := fun m => ⟨List.all_eq_true.2 fun y hy => List.all_eq_true.1 hok.2 y (List.mem_of_mem_take hy), List.all_eq_true.2 fun y hy => List.all_eq_true.1 hok.2 y (List.mem_of_mem_drop hy)⟩
      by_cases h0 : x.a = 0
      · rw [lam_var _ _ _ _ h0] at hc; cases hc
      · by_cases h1 : x.a = 1
        · cases h2 : lamC ixI bxI short (dep + 1) l with
          | none => rw [lam_abs_none _ _ _ _ h1 (ih l (dep + 1) hl hok.2 (by omega) h2)]
          | some b =>
            rw [lam_abs_some _ _ _ _ h1 h2] at hc
            obtain ⟨f1, f2, f3, f4⟩ := lamC_facts short _ l (dep + 1) b (Nat.le_refl _) hok.2 (by omega) h2
            have hv : ∀ y ∈ b, isV (bxS dep) (ren y) = isV (bxI dep) y := by
              intro y hy
              unfold isV bxS bxI
              rw [ren_a]
              by_cases h4 : y.a = 4
              · have := f3 y hy h4
                rw [decide_eq_true h4, Bool.true_and, Bool.true_and]
                unfold ren
                by_cases hn : y.b < 0
                · rw [if_pos ⟨h4, hn⟩]
                  simp only [decide_eq_decide]
                  omega
                · rw [if_neg (fun h => hn h.2)]
                  simp only [decide_eq_decide]
                  omega
              · simp [h4]
            rw [lam_abs_some _ _ _ _ h1 f4, absC_ren _ _ short _ b (Nat.le_refl _) hv]
            unfold capC at hc ⊢
            rw [List.length_map]
            split at hc
            · cases hc
            · rename_i hh; rw [if_neg hh]
        · have h2' : x.a = 2 := by omega
          cases h2 : lamC ixI bxI short dep (l.take (midL l)) with
          | none => rw [lam_app_none1 _ _ _ _ h2' (ih _ dep (by rw [List.length_take]; omega) (hall _).1 hdep h2)]
          | some d =>
            obtain ⟨f1, f2, f3, f4⟩ := lamC_facts short _ _ dep d (Nat.le_refl _) (hall _).1 hdep h2
            cases h3 : lamC ixI bxI short dep (l.drop (midL l)) with
            | none => rw [lam_app_none2 _ _ _ _ h2' f4 (ih _ dep (by rw [List.length_drop]; omega) (hall _).2 hdep h3)]
            | some e =>
              obtain ⟨g1, g2, g3, g4⟩ := lamC_facts short _ _ dep e (Nat.le_refl _) (hall _).2 hdep h3
              rw [lam_app_some _ _ _ _ h2' h2 h3] at hc
              rw [lam_app_some _ _ _ _ h2' f4 g4]
              unfold capC at hc ⊢
              split at hc
              · cases hc
              · rename_i hh; rw [if_neg (by simpa using hh)]
/-- What LamToComb gives. -/
def lamToComb (t : List R2) (short : Bool) : List R2 × Int := if validT t then (match lamC ixI bxI short 0 t with | some c => (c, 0) | none => ([], 5)) else ([], 1)
theorem ren_id {c : List R2} (h : ∀ x ∈ c, x.a = 4 → 0 ≤ x.b) : c.map ren = c := by
  induction c with
  | nil => rfl
  | cons x l ih =>
    rw [List.map_cons, ih fun y hy => h y (List.mem_cons_of_mem _ hy)]
    congr 1
    unfold ren
    rw [if_neg]
    rintro ⟨h1, h2⟩
    have := h x (by simp) h1
    omega
theorem lamC_same (short : Bool) {t : List R2} (h : t.all lOk = true) : lamC ixS bxS short 0 t = lamC ixI bxI short 0 t := by
  cases h1 : lamC ixI bxI short 0 t with
  | none => exact lamC_none short _ t 0 (Nat.le_refl _) h (by omega) h1
  | some c =>
    obtain ⟨f1, f2, f3, f4⟩ := lamC_facts short _ t 0 c (Nat.le_refl _) h (by omega) h1
    rw [f4, ren_id fun x hx h4 => by have := f3 x hx h4; omega]
theorem bndLamToComb0 (t : List R2) (short : Bool) (h : t.length ≤ 1048576) : (lamToComb t short).1.length ≤ 1048576 := by
  unfold lamToComb
  split
  · rename_i hv
    have hok : t.all lOk = true := by unfold validT at hv; exact (Bool.and_eq_true _ _ ▸ (Bool.and_eq_true _ _ ▸ hv).2).1
    cases h1 : lamC ixI bxI short 0 t with
    | none => simp
    | some c => have := (lamC_facts short _ t 0 c (Nat.le_refl _) hok (by omega) h1).1; simp only; omega
  · simp
end Go.Proofs.YtkiaclajjlidoaaGreatDoor
