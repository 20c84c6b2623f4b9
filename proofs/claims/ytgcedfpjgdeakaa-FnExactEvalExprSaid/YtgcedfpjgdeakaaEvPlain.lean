/- Expressions of while programs and their values, in plain Lean: by their parts, and with a stack from the right. -/
import Derived.Test.YtgcedfpjgdeakaaTreeParse
import Derived.Test.YtgcedfpjgdeakaaExprs
namespace Go.Proofs.Ytgcedfpjgdeakaa
open Go.RowKit
set_option linter.all false

def T.hd : T → T
  | .nil => .nil
  | .pair a _ => a
def T.tl : T → T
  | .nil => .nil
  | .pair _ b => b
def T.same (a b : T) : Bool := decide (a.enc = b.enc)
def sameT (a b : T) : T := if T.same a b then .pair .nil .nil else .nil
def consT (a b : T) : Option T := if 2000 < 1 + a.nodes + b.nodes then none else some (.pair a b)
theorem consT_no {a b : T} (h : 2000 < 1 + a.nodes + b.nodes) : consT a b = none := if_pos h
theorem consT_yes {a b : T} (h : ¬ 2000 < 1 + a.nodes + b.nodes) : consT a b = some (.pair a b) := if_neg h
theorem T.hd_nodes (x : T) : x.hd.nodes ≤ x.nodes := by cases x <;> simp [T.hd, T.nodes] <;> omega
theorem T.tl_nodes (x : T) : x.tl.nodes ≤ x.nodes := by cases x <;> simp [T.tl, T.nodes] <;> omega
theorem sameT_nodes (x y : T) : (sameT x y).nodes ≤ 3 := by unfold sameT; split <;> simp [T.nodes]
theorem T.same_iff (a b : T) : T.same a b = true ↔ a = b := by
  unfold T.same
  rw [decide_eq_true_eq]
  constructor
  · intro h
    exact (enc_inj a b [] [] (by rw [List.append_nil, List.append_nil]; exact h)).1
  · rintro rfl; rfl
theorem T.same_false {a b : T} (h : a ≠ b) : T.same a b = false := by
  cases e : T.same a b with
  | false => rfl
  | true => exact absurd ((T.same_iff a b).1 e) h
theorem T.same_pair (a b c d : T) : T.same (.pair a b) (.pair c d) = (T.same a c && T.same b d) := by
  rw [Bool.eq_iff_iff, Bool.and_eq_true, T.same_iff, T.same_iff, T.same_iff]
  constructor
  · intro h; injection h with h1 h2; exact ⟨h1, h2⟩
  · rintro ⟨rfl, rfl⟩; rfl

inductive E where
  | nil
  | var (v : Nat)
  | cons (a b : E)
  | head (a : E)
  | tail (a : E)
  | same (a b : E)
def E.enc : E → List R2
  | .nil => [⟨0, 0⟩]
  | .var v => [⟨1, (v : Int)⟩]
  | .cons a b => ⟨2, 0⟩ :: (a.enc ++ b.enc)
  | .head a => ⟨3, 0⟩ :: a.enc
  | .tail a => ⟨4, 0⟩ :: a.enc
  | .same a b => ⟨5, 0⟩ :: (a.enc ++ b.enc)
def E.ok : E → Prop
  | .nil => True
  | .var v => v ≤ 5
  | .cons a b => a.ok ∧ b.ok
  | .head a => a.ok
  | .tail a => a.ok
  | .same a b => a.ok ∧ b.ok
def E.len (e : E) : Nat := e.enc.length
theorem E.len_pos (e : E) : 1 ≤ e.len := by cases e <;> simp [E.len, E.enc]
def E.val (σ : List T) : E → Option T
  | .nil => some .nil
  | .var v => some (σ.getD v .nil)
  | .cons a b => (a.val σ).bind fun x => (b.val σ).bind fun y => consT x y
  | .head a => (a.val σ).map T.hd
  | .tail a => (a.val σ).map T.tl
  | .same a b => (a.val σ).bind fun x => (b.val σ).map fun y => sameT x y
theorem getD_nodes {σ : List T} (h : ∀ t ∈ σ, t.nodes ≤ 2000) (v : Nat) : (σ.getD v .nil).nodes ≤ 2000 := by
  rw [List.getD_eq_getElem?_getD]
  cases hv : σ[v]? with
  | none => simp [T.nodes]
  | some t => exact h t (List.mem_of_getElem? hv)
theorem E.val_nodes {σ : List T} (h : ∀ t ∈ σ, t.nodes ≤ 2000) (e : E) : ∀ t, e.val σ = some t → t.nodes ≤ 2000 := by
  induction e with
  | nil => intro t ht; simp [E.val] at ht; subst ht; simp [T.nodes]
  | var v => intro t ht; simp only [E.val, Option.some.injEq] at ht; subst ht; exact getD_nodes h v
  | cons a b iha ihb =>
    intro t ht
    simp only [E.val] at ht
    cases ha : a.val σ with
    | none => rw [ha] at ht; cases ht
    | some x =>
      cases hb : b.val σ with
      | none => rw [ha, hb] at ht; cases ht
      | some y =>
        rw [ha, hb, Option.bind_some, Option.bind_some] at ht
        unfold consT at ht
        split at ht
        · cases ht
        · injection ht with ht; subst ht; simp only [T.nodes]; omega
  | head a iha =>
    intro t ht
    simp only [E.val] at ht
    cases ha : a.val σ with
    | none => rw [ha] at ht; cases ht
    | some x => rw [ha] at ht; simp only [Option.map_some, Option.some.injEq] at ht; subst ht; have := iha x ha; have := x.hd_nodes; omega
  | tail a iha =>
    intro t ht
    simp only [E.val] at ht
    cases ha : a.val σ with
    | none => rw [ha] at ht; cases ht
    | some x => rw [ha] at ht; simp only [Option.map_some, Option.some.injEq] at ht; subst ht; have := iha x ha; have := x.tl_nodes; omega
  | same a b iha ihb =>
    intro t ht
    simp only [E.val] at ht
    cases ha : a.val σ with
    | none => rw [ha] at ht; cases ht
    | some x =>
      cases hb : b.val σ with
      | none => rw [ha, hb] at ht; cases ht
      | some y =>
        rw [ha, hb] at ht
        simp only [Option.bind_some, Option.map_some, Option.some.injEq] at ht
        subst ht; have := sameT_nodes x y; omega

def eEncs (es : List E) : List R2 := es.flatMap E.enc
theorem eEncs_cons (e : E) (es : List E) : eEncs (e :: es) = e.enc ++ eEncs es := by simp [eEncs]
theorem fit_parse : ∀ (xs : List R2) (n : Nat), fit eFol n xs = true → xs.all eOk = true → ∃ es : List E, es.length = n ∧ xs = eEncs es ∧ ∀ e ∈ es, e.ok := by
  intro xs
  induction xs with
  | nil =>
    intro n h _
    cases n with
    | zero => exact ⟨[], rfl, rfl, by simp⟩
    | succ n => rw [fit_s0] at h; cases h
  | cons x l ih =>
    intro n h ha
    cases n with
    | zero => rw [fit_0c] at h; cases h
    | succ n =>
      rw [fit_sc] at h
      rw [List.all_cons, Bool.and_eq_true] at ha
      obtain ⟨es, hl, he, hok⟩ := ih _ h ha.2
      have hx := ha.1
      unfold eOk at hx
      rw [Bool.and_eq_true, Bool.and_eq_true, inB_iff, inB_iff, Bool.or_eq_true, decide_eq_true_eq, decide_eq_true_eq] at hx
      obtain ⟨⟨⟨h0, h5⟩, g0, g5⟩, hz⟩ := hx
      obtain ⟨a, b⟩ := x
      dsimp only at h0 h5 g0 g5 hz
      have hc : a = 0 ∨ a = 1 ∨ a = 2 ∨ a = 3 ∨ a = 4 ∨ a = 5 := by omega
      rcases hc with rfl | rfl | rfl | rfl | rfl | rfl
      · obtain rfl : b = 0 := by omega
        exact ⟨.nil :: es, by rw [List.length_cons, hl]; rfl, by rw [eEncs_cons, he]; rfl, by intro e h; rcases List.mem_cons.1 h with rfl | h; trivial; exact hok e h⟩
      · refine ⟨.var b.toNat :: es, by rw [List.length_cons, hl]; rfl, ?_, ?_⟩
        · rw [eEncs_cons, he]
          simp only [E.enc, List.cons_append, List.nil_append]
          congr 2
          omega
        · intro e h
          rcases List.mem_cons.1 h with rfl | h
          · show b.toNat ≤ 5; omega
          · exact hok e h
      · obtain rfl : b = 0 := by omega
        match es, hl, he, hok with
        | p :: q :: es, hl, he, hok =>
          refine ⟨.cons p q :: es, ?_, ?_, ?_⟩
          · have : eFol ⟨2, 0⟩ = 2 := rfl
            rw [this] at hl
            simp only [List.length_cons] at hl ⊢
            omega
          · rw [eEncs_cons, he, eEncs_cons, eEncs_cons]; simp [E.enc]
          · intro e h
            rcases List.mem_cons.1 h with rfl | h
            · exact ⟨hok p (by simp), hok q (by simp)⟩
            · exact hok e (by simp [h])
        | [p], hl, _, _ => have : eFol ⟨2, 0⟩ = 2 := rfl; rw [this] at hl; simp at hl
        | [], hl, _, _ => have : eFol ⟨2, 0⟩ = 2 := rfl; rw [this] at hl; simp at hl
      · obtain rfl : b = 0 := by omega
        match es, hl, he, hok with
        | p :: es, hl, he, hok =>
          refine ⟨.head p :: es, ?_, ?_, ?_⟩
          · have : eFol ⟨3, 0⟩ = 1 := rfl
            rw [this] at hl
            simp only [List.length_cons] at hl ⊢
            omega
          · rw [eEncs_cons, he, eEncs_cons]; simp [E.enc]
          · intro e h
            rcases List.mem_cons.1 h with rfl | h
            · exact hok p (by simp)
            · exact hok e (by simp [h])
        | [], hl, _, _ => have : eFol ⟨3, 0⟩ = 1 := rfl; rw [this] at hl; simp at hl
      · obtain rfl : b = 0 := by omega
        match es, hl, he, hok with
        | p :: es, hl, he, hok =>
          refine ⟨.tail p :: es, ?_, ?_, ?_⟩
          · have : eFol ⟨4, 0⟩ = 1 := rfl
            rw [this] at hl
            simp only [List.length_cons] at hl ⊢
            omega
          · rw [eEncs_cons, he, eEncs_cons]; simp [E.enc]
          · intro e h
            rcases List.mem_cons.1 h with rfl | h
            · exact hok p (by simp)
            · exact hok e (by simp [h])
        | [], hl, _, _ => have : eFol ⟨4, 0⟩ = 1 := rfl; rw [this] at hl; simp at hl
      · obtain rfl : b = 0 := by omega
        match es, hl, he, hok with
        | p :: q :: es, hl, he, hok =>
          refine ⟨.same p q :: es, ?_, ?_, ?_⟩
          · have : eFol ⟨5, 0⟩ = 2 := rfl
            rw [this] at hl
            simp only [List.length_cons] at hl ⊢
            omega
          · rw [eEncs_cons, he, eEncs_cons, eEncs_cons]; simp [E.enc]
          · intro e h
            rcases List.mem_cons.1 h with rfl | h
            · exact ⟨hok p (by simp), hok q (by simp)⟩
            · exact hok e (by simp [h])
        | [p], hl, _, _ => have : eFol ⟨5, 0⟩ = 2 := rfl; rw [this] at hl; simp at hl
        | [], hl, _, _ => have : eFol ⟨5, 0⟩ = 2 := rfl; rw [this] at hl; simp at hl
/-- A valid list of elements is the list of one expression. -/
theorem validE_parse {xs : List R2} (h : validE xs = true) : ∃ e : E, xs = e.enc ∧ e.ok ∧ xs.length ≤ 40 ∧ 1 ≤ xs.length := by
  unfold validE at h
  rw [Bool.and_eq_true, Bool.and_eq_true, inB_iff] at h
  obtain ⟨es, hl, he, hok⟩ := fit_parse xs 1 h.2.2 h.2.1
  match es, hl, he, hok with
  | [e], _, he, hok => exact ⟨e, by rw [he]; simp [eEncs], hok e (by simp), by omega, by omega⟩

/-- The values of expressions. -/
def vals (σ : List T) : List E → Option (List T)
  | [] => some []
  | e :: es => (e.val σ).bind fun x => (vals σ es).map fun ts => x :: ts
/-- One element, from the right, on a stack. -/
def pushS (σ : List T) (x : R2) (st : List T) : Option (List T) :=
  if x.a = 1 then some (σ.getD x.b.toNat .nil :: st) else
  match st with
  | a :: b :: r => if x.a = 2 then (consT a b).map (· :: r) else if x.a = 3 then some (a.hd :: b :: r) else if x.a = 4 then some (a.tl :: b :: r) else if x.a = 5 then some (sameT a b :: r) else some (.nil :: a :: b :: r)
  | [a] => if x.a = 3 then some [a.hd] else if x.a = 4 then some [a.tl] else some [.nil, a]
  | [] => some [.nil]
def evS (σ : List T) : List R2 → Option (List T)
  | [] => some []
  | x :: l => (evS σ l).bind (pushS σ x)
theorem pushS_nil (σ : List T) (st : List T) : pushS σ ⟨0, 0⟩ st = some (.nil :: st) := by
  unfold pushS
  rw [if_neg (by decide)]
  match st with
  | a :: b :: r => rfl
  | [a] => rfl
  | [] => rfl
theorem pushS_var (σ : List T) (v : Nat) (st : List T) : pushS σ ⟨1, (v : Int)⟩ st = some (σ.getD v .nil :: st) := by
  unfold pushS
  rw [if_pos rfl]; rfl
theorem pushS_head (σ : List T) (a : T) (st : List T) : pushS σ ⟨3, 0⟩ (a :: st) = some (a.hd :: st) := by
  unfold pushS
  rw [if_neg (by decide)]
  cases st <;> rfl
theorem pushS_tail (σ : List T) (a : T) (st : List T) : pushS σ ⟨4, 0⟩ (a :: st) = some (a.tl :: st) := by
  unfold pushS
  rw [if_neg (by decide)]
  cases st <;> rfl
theorem pushS_cons (σ : List T) (a b : T) (st : List T) : pushS σ ⟨2, 0⟩ (a :: b :: st) = (consT a b).map (· :: st) := by
  unfold pushS
  rw [if_neg (by decide)]; rfl
theorem pushS_same (σ : List T) (a b : T) (st : List T) : pushS σ ⟨5, 0⟩ (a :: b :: st) = some (sameT a b :: st) := by
  unfold pushS
  rw [if_neg (by decide)]; rfl
theorem evS_enc (σ : List T) (e : E) : ∀ l : List R2, evS σ (e.enc ++ l) = (e.val σ).bind fun x => (evS σ l).map fun ts => x :: ts := by
  induction e with
  | nil =>
    intro l
    simp only [E.enc, List.cons_append, List.nil_append, evS, E.val, Option.bind_some]
    cases evS σ l with
    | none => rfl
    | some ts => rw [Option.bind_some, pushS_nil]; rfl
  | var v =>
    intro l
    simp only [E.enc, List.cons_append, List.nil_append, evS, E.val, Option.bind_some]
    cases evS σ l with
    | none => rfl
    | some ts => rw [Option.bind_some, pushS_var]; rfl
  | cons a b iha ihb =>
    intro l
    simp only [E.enc, List.cons_append, List.append_assoc, evS, E.val]
    rw [iha, ihb]
    cases a.val σ with
    | none => rfl
    | some x =>
      cases b.val σ with
      | none => rfl
      | some y =>
        cases evS σ l with
        | none => simp only [Option.bind_some, Option.map_none]; cases consT x y <;> rfl
        | some ts => simp only [Option.bind_some, Option.map_some]; rw [pushS_cons]; cases consT x y <;> rfl
  | head a iha =>
    intro l
    simp only [E.enc, List.cons_append, evS, E.val]
    rw [iha]
    cases a.val σ with
    | none => rfl
    | some x =>
      cases evS σ l with
      | none => rfl
      | some ts => simp only [Option.bind_some, Option.map_some]; rw [pushS_head]
  | tail a iha =>
    intro l
    simp only [E.enc, List.cons_append, evS, E.val]
    rw [iha]
    cases a.val σ with
    | none => rfl
    | some x =>
      cases evS σ l with
      | none => rfl
      | some ts => simp only [Option.bind_some, Option.map_some]; rw [pushS_tail]
  | same a b iha ihb =>
    intro l
    simp only [E.enc, List.cons_append, List.append_assoc, evS, E.val]
    rw [iha, ihb]
    cases a.val σ with
    | none => rfl
    | some x =>
      cases b.val σ with
      | none => rfl
      | some y =>
        cases evS σ l with
        | none => rfl
        | some ts => simp only [Option.bind_some, Option.map_some]; rw [pushS_same]
theorem evS_encs (σ : List T) (es : List E) : evS σ (eEncs es) = vals σ es := by
  induction es with
  | nil => rfl
  | cons e es ih => rw [eEncs_cons, evS_enc, ih]; rfl
theorem evS_none {σ : List T} : ∀ {xs : List R2} {i : Nat}, evS σ (xs.drop i) = none → evS σ xs = none := by
  intro xs
  induction xs with
  | nil => intro i h; rw [List.drop_nil] at h; exact h
  | cons x l ih =>
    intro i h
    cases i with
    | zero => exact h
    | succ i => rw [List.drop_succ_cons] at h; rw [evS, ih h]; rfl
/-- What is left of expressions behind any place is expressions. -/
theorem suffix_encs : ∀ (i : Nat) (es : List E), (∀ e ∈ es, e.ok) → ∃ es', (eEncs es).drop i = eEncs es' ∧ ∀ e ∈ es', e.ok := by
  intro i
  induction i with
  | zero => intro es h; exact ⟨es, rfl, h⟩
  | succ i ih =>
    intro es h
    cases es with
    | nil => exact ⟨[], by simp [eEncs], by simp⟩
    | cons e es =>
      have hr : ∀ e ∈ es, e.ok := fun e he => h e (by simp [he])
      have he := h e (by simp)
      rw [eEncs_cons]
      cases e with
      | nil => simp only [E.enc, List.cons_append, List.nil_append, List.drop_succ_cons]; exact ih es hr
      | var v => simp only [E.enc, List.cons_append, List.nil_append, List.drop_succ_cons]; exact ih es hr
      | cons a b =>
        simp only [E.enc, List.cons_append, List.append_assoc, List.drop_succ_cons]
        have := ih (a :: b :: es) (by intro e hm; rcases List.mem_cons.1 hm with rfl | hm; exact he.1; rcases List.mem_cons.1 hm with rfl | hm; exact he.2; exact hr e hm)
        rw [eEncs_cons, eEncs_cons] at this; exact this
      | head a =>
        simp only [E.enc, List.cons_append, List.drop_succ_cons]
        have := ih (a :: es) (by intro e hm; rcases List.mem_cons.1 hm with rfl | hm; exact he; exact hr e hm)
        rw [eEncs_cons] at this; exact this
      | tail a =>
        simp only [E.enc, List.cons_append, List.drop_succ_cons]
        have := ih (a :: es) (by intro e hm; rcases List.mem_cons.1 hm with rfl | hm; exact he; exact hr e hm)
        rw [eEncs_cons] at this; exact this
      | same a b =>
        simp only [E.enc, List.cons_append, List.append_assoc, List.drop_succ_cons]
        have := ih (a :: b :: es) (by intro e hm; rcases List.mem_cons.1 hm with rfl | hm; exact he.1; rcases List.mem_cons.1 hm with rfl | hm; exact he.2; exact hr e hm)
        rw [eEncs_cons, eEncs_cons] at this; exact this

/-- The last value of a stack, or too much. -/
def evOut : Option (List T) → List Bool × Int
  | some (t :: _) => (t.enc, 0)
  | _ => ([], 5)
def storeOk (st : List (List Bool)) : Bool := decide (st.length = 6) && st.all isTreeB
def evalExpr (e : List R2) (st : List (List Bool)) : List Bool × Int := if validE e && storeOk st then evOut (evS (st.map treeFor) e) else ([], 1)
theorem storeOk_trees {st : List (List Bool)} (h : storeOk st = true) : ∃ σ : List T, st = σ.map T.enc ∧ σ.length = 6 ∧ (∀ t ∈ σ, t.nodes ≤ 2000) ∧ st.map treeFor = σ := by
  unfold storeOk at h
  rw [Bool.and_eq_true, decide_eq_true_eq, List.all_eq_true] at h
  have e1 : (st.map treeFor).map T.enc = st := by
    rw [List.map_map]
    conv => rhs; rw [← List.map_id st]
    refine List.map_congr_left fun t ht => ?_
    obtain ⟨x, hx⟩ := ((isTree_iff t).1 (h.2 t ht)).2
    show (treeFor t).enc = t
    rw [hx, treeFor_enc]
  refine ⟨st.map treeFor, e1.symm, by rw [List.length_map]; exact h.1, ?_, rfl⟩
  intro t ht
  obtain ⟨l, hl, rfl⟩ := List.mem_map.1 ht
  obtain ⟨h1, x, hx⟩ := (isTree_iff l).1 (h.2 l hl)
  rw [hx, treeFor_enc, ← T.length_enc, ← hx]; exact h1
theorem evalExpr_no {e : List R2} {st : List (List Bool)} (h : (validE e && storeOk st) = false) : evalExpr e st = ([], 1) := by unfold evalExpr; rw [h]; rfl
theorem evalExpr_yes {e : List R2} {st : List (List Bool)} {σ : List T} (h1 : validE e = true) (h2 : storeOk st = true) (h : st.map treeFor = σ) : evalExpr e st = evOut (evS σ e) := by unfold evalExpr; rw [h1, h2, h]; rfl
theorem evOut_val (σ : List T) (e : E) : evOut (evS σ e.enc) = match e.val σ with | some t => (t.enc, 0) | none => ([], 5) := by
  have h := evS_enc σ e []
  rw [List.append_nil] at h
  rw [h]
  cases e.val σ <;> rfl
theorem evalExpr_len (e : List R2) (st : List (List Bool)) : (evalExpr e st).1.length ≤ 1048576 := by
  cases h : (validE e && storeOk st) with
  | false => rw [evalExpr_no h]; simp
  | true =>
    rw [Bool.and_eq_true] at h
    obtain ⟨σ, h1, h2, h3, h4⟩ := storeOk_trees h.2
    obtain ⟨x, rfl, _⟩ := validE_parse h.1
    rw [evalExpr_yes h.1 h.2 h4, evOut_val]
    cases hv : x.val σ with
    | none => simp
    | some t => have := x.val_nodes h3 t hv; show t.enc.length ≤ _; rw [T.length_enc]; omega
end Go.Proofs.Ytgcedfpjgdeakaa
