/- Trees and their lists of nodes: plain facts, no program. -/
namespace Go.Proofs.Ytgcedfpjgdeakaa
set_option linter.all false

/-- What is left of a list of nodes behind so many trees. -/
def scan : Nat → List Bool → Option (List Bool)
  | 0, l => some l
  | _ + 1, [] => none
  | n + 1, true :: l => scan (n + 2) l
  | n + 1, false :: l => scan n l

inductive T where
  | nil
  | pair (a b : T)

def T.enc : T → List Bool
  | .nil => [false]
  | .pair a b => true :: (a.enc ++ b.enc)
def T.nodes : T → Nat
  | .nil => 1
  | .pair a b => 1 + a.nodes + b.nodes
def T.depth : T → Nat
  | .nil => 0
  | .pair a b => 1 + max a.depth b.depth

theorem T.length_enc (t : T) : t.enc.length = t.nodes := by
  induction t with
  | nil => rfl
  | pair a b ha hb => simp [T.enc, T.nodes, ha, hb]; omega
theorem T.nodes_pos (t : T) : 1 ≤ t.nodes := by cases t <;> simp [T.nodes]; omega

theorem scan_enc (t : T) : ∀ (n : Nat) (r : List Bool), scan (n + 1) (t.enc ++ r) = scan n r := by
  induction t with
  | nil => intro n r; simp [T.enc, scan]
  | pair a b ha hb =>
    intro n r
    simp only [T.enc, List.cons_append, scan, List.append_assoc]
    rw [ha, hb]
theorem scan_one_enc (t : T) (r : List Bool) : scan 1 (t.enc ++ r) = some r := by rw [scan_enc]; simp [scan]

def encs (ts : List T) : List Bool := ts.flatMap T.enc
theorem scan_encs (ts : List T) : ∀ (n : Nat) (r : List Bool), scan (n + ts.length) (encs ts ++ r) = scan n r := by
  induction ts with
  | nil => intro n r; simp [encs]
  | cons t ts ih =>
    intro n r
    have := ih n r
    simp only [encs, List.flatMap_cons, List.append_assoc, List.length_cons]
    rw [show n + (ts.length + 1) = (n + ts.length) + 1 from by omega, scan_enc]
    exact this

theorem scan_some : ∀ (l : List Bool) (n : Nat) (r : List Bool), scan n l = some r → ∃ ts : List T, ts.length = n ∧ l = encs ts ++ r := by
  intro l
  induction l with
  | nil =>
    intro n r h
    cases n with
    | zero => simp [scan] at h; subst h; exact ⟨[], rfl, rfl⟩
    | succ n => simp [scan] at h
  | cons b l ih =>
    intro n r h
    cases n with
    | zero => simp [scan] at h; subst h; exact ⟨[], rfl, by simp [encs]⟩
    | succ n =>
      cases b with
      | false =>
        simp only [scan] at h
        obtain ⟨ts, hl, he⟩ := ih n r h
        exact ⟨.nil :: ts, by simp [hl], by rw [he]; simp [encs, T.enc]⟩
      | true =>
        simp only [scan] at h
        obtain ⟨ts, hl, he⟩ := ih (n + 2) r h
        match ts, hl, he with
        | a :: b :: ts, hl, he =>
          exact ⟨.pair a b :: ts, by simp at hl ⊢; omega, by rw [he]; simp [encs, T.enc, List.append_assoc]⟩

/-- One tree of at most 2000 nodes. -/
def isTreeB (t : List Bool) : Bool := decide (t.length ≤ 2000) && decide (scan 1 t = some [])
theorem isTree_iff (t : List Bool) : isTreeB t = true ↔ t.length ≤ 2000 ∧ ∃ x : T, t = x.enc := by
  unfold isTreeB
  simp only [Bool.and_eq_true, decide_eq_true_eq]
  constructor
  · rintro ⟨h1, h2⟩
    obtain ⟨ts, hl, he⟩ := scan_some _ _ _ h2
    match ts, hl with
    | [x], _ => exact ⟨h1, x, by rw [he]; simp [encs]⟩
  · rintro ⟨h1, x, rfl⟩
    exact ⟨h1, by have := scan_one_enc x []; rwa [List.append_nil] at this⟩
theorem enc_inj : ∀ (a b : T) (r s : List Bool), a.enc ++ r = b.enc ++ s → a = b ∧ r = s := by
  intro a
  induction a with
  | nil =>
    intro b r s h
    cases b with
    | nil => simp [T.enc] at h; exact ⟨rfl, h⟩
    | pair c d => simp [T.enc] at h
  | pair a1 a2 h1 h2 =>
    intro b r s h
    cases b with
    | nil => simp [T.enc] at h
    | pair c d =>
      simp only [T.enc, List.cons_append, List.cons.injEq, true_and, List.append_assoc] at h
      obtain ⟨e1, h⟩ := h1 _ _ _ h
      obtain ⟨e2, h⟩ := h2 _ _ _ h
      exact ⟨by rw [e1, e2], h⟩
theorem scan_suffix : ∀ (l : List Bool) (n : Nat) (r : List Bool), scan n l = some r → ∃ p, l = p ++ r := by
  intro l n r h
  obtain ⟨ts, _, he⟩ := scan_some l n r h
  exact ⟨_, he⟩
theorem scan_step_true {l : List Bool} {k m : Nat} (h : l[k]? = some true) : scan (m + 1) (l.drop k) = scan (m + 2) (l.drop (k + 1)) := by
  have hk := (List.getElem?_eq_some_iff.1 h)
  rw [List.drop_eq_getElem_cons hk.1, hk.2]; rfl
theorem scan_step_false {l : List Bool} {k m : Nat} (h : l[k]? = some false) : scan (m + 1) (l.drop k) = scan m (l.drop (k + 1)) := by
  have hk := (List.getElem?_eq_some_iff.1 h)
  rw [List.drop_eq_getElem_cons hk.1, hk.2]; rfl
end Go.Proofs.Ytgcedfpjgdeakaa
