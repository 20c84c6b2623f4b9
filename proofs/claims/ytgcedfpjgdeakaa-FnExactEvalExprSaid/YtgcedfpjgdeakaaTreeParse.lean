/- Trees out of lists of nodes; the list of a tree. Plain facts, no program. -/
import Derived.Test.YtgcedfpjgdeakaaTreesPlain
namespace Go.Proofs.Ytgcedfpjgdeakaa
set_option linter.all false

def parseT : Nat → List Bool → T × List Bool
  | 0, l => (.nil, l)
  | _ + 1, [] => (.nil, [])
  | _ + 1, false :: l => (.nil, l)
  | n + 1, true :: l => (.pair (parseT n l).1 (parseT n (parseT n l).2).1, (parseT n (parseT n l).2).2)
theorem parse_enc (x : T) : ∀ (n : Nat) (r : List Bool), x.nodes ≤ n → parseT n (x.enc ++ r) = (x, r) := by
  induction x with
  | nil =>
    intro n r h
    cases n with
    | zero => simp [T.nodes] at h
    | succ n => rfl
  | pair a b ha hb =>
    intro n r h
    cases n with
    | zero => simp [T.nodes] at h
    | succ n =>
      simp only [T.nodes] at h
      have e1 := ha n (b.enc ++ r) (by omega)
      have e2 := hb n r (by omega)
      simp only [T.enc, List.cons_append, List.append_assoc, parseT, e1, e2]
/-- The tree of a list of nodes. -/
def treeFor (t : List Bool) : T := (parseT t.length t).1
theorem treeFor_enc (x : T) : treeFor x.enc = x := by
  unfold treeFor
  have := parse_enc x x.enc.length [] (by rw [T.length_enc]; exact Nat.le_refl _)
  rw [List.append_nil] at this
  rw [this]
/-- The list of a tree. -/
def T.spine : T → List T
  | .nil => []
  | .pair a b => a :: b.spine
theorem spine_le (x : T) : 2 * x.spine.length + 1 ≤ x.nodes ∧ ∀ y ∈ x.spine, y.nodes < x.nodes := by
  induction x with
  | nil => exact ⟨by simp [T.spine, T.nodes], by simp [T.spine]⟩
  | pair a b ha hb =>
    have ha0 := a.nodes_pos
    simp only [T.spine, T.nodes, List.length_cons]
    refine ⟨by omega, fun y hy => ?_⟩
    rcases List.mem_cons.1 hy with rfl | hy
    · omega
    · have := hb.2 y hy; omega
def T.isNil : T → Bool
  | .nil => true
  | .pair _ _ => false
/-- The number of a tree. -/
def numOf (x : T) : Int × Int := if decide (x.spine.length ≤ 100) && x.spine.all T.isNil then ((x.spine.length : Int), 0) else (0, 9)
def numberOfTree (t : List Bool) : Int × Int := if isTreeB t then numOf (treeFor t) else (0, 1)
theorem numberOf_enc (x : T) (h : x.nodes ≤ 2000) : numberOfTree x.enc = numOf x := by
  unfold numberOfTree
  rw [if_pos ((isTree_iff _).2 ⟨by rw [T.length_enc]; exact h, x, rfl⟩), treeFor_enc]
theorem numOf_ok {x : T} (h1 : x.spine.length ≤ 100) (h2 : x.spine.all T.isNil = true) : numOf x = ((x.spine.length : Int), 0) := by
  unfold numOf; rw [decide_eq_true h1, h2]; rfl
theorem numOf_long {x : T} (h1 : 100 < x.spine.length) : numOf x = (0, 9) := by
  unfold numOf; rw [decide_eq_false (by omega)]; rfl
theorem numOf_bad {x : T} (h1 : x.spine.all T.isNil = false) : numOf x = (0, 9) := by
  unfold numOf; rw [h1, Bool.and_false]; rfl
/-- The list of a tree, as lists of nodes. -/
def listOf (x : T) : List (List Bool) × Int := if x.spine.length ≤ 100 then (x.spine.map T.enc, 0) else ([], 2)
def listOfTree (t : List Bool) : List (List Bool) × Int := if isTreeB t then listOf (treeFor t) else ([], 1)
theorem listOf_enc (x : T) (h : x.nodes ≤ 2000) : listOfTree x.enc = listOf x := by
  unfold listOfTree
  rw [if_pos ((isTree_iff _).2 ⟨by rw [T.length_enc]; exact h, x, rfl⟩), treeFor_enc]
theorem encs_sum (x : T) : ((x.spine.map T.enc).map List.length).sum ≤ x.nodes := by
  induction x with
  | nil => simp [T.spine]
  | pair a b ha hb => simp only [T.spine, List.map_cons, List.sum_cons, T.length_enc, T.nodes]; omega
/-- The part to which a path leads. -/
def T.part : T → List Int → Option T
  | x, [] => some x
  | .nil, _ :: _ => none
  | .pair a b, d :: p => if d = 0 then a.part p else b.part p
def pathOk (p : List Int) : Bool := decide (p.length ≤ 100) && p.all fun d => decide (d = 0) || decide (d = 1)
def partOf (x : T) (p : List Int) : List Bool × Int := match x.part p with | some y => (y.enc, 0) | none => ([], 3)
def partAt (t : List Bool) (p : List Int) : List Bool × Int := if isTreeB t then (if pathOk p then partOf (treeFor t) p else ([], 2)) else ([], 1)
theorem part_le (p : List Int) : ∀ (x y : T), x.part p = some y → y.nodes ≤ x.nodes := by
  induction p with
  | nil => intro x y h; cases x <;> (simp [T.part] at h; subst h; exact Nat.le_refl _)
  | cons d p ih =>
    intro x y h
    cases x with
    | nil => simp [T.part] at h
    | pair a b =>
      simp only [T.part] at h
      simp only [T.nodes]
      split at h
      · have := ih a y h; omega
      · have := ih b y h; omega
theorem bndPartAt0 (t : List Bool) (p : List Int) (h : t.length ≤ 1048576) (h2 : p.length ≤ 1048576) : (partAt t p).1.length ≤ 1048576 := by
  unfold partAt
  split
  · rename_i hv
    obtain ⟨h1, x, rfl⟩ := (isTree_iff t).1 hv
    split
    · rw [treeFor_enc]
      unfold partOf
      cases hp : x.part p with
      | none => simp
      | some y =>
        have := part_le p x y hp
        rw [T.length_enc] at h
        simp only [T.length_enc]
        omega
    · simp
  · simp
end Go.Proofs.Ytgcedfpjgdeakaa
