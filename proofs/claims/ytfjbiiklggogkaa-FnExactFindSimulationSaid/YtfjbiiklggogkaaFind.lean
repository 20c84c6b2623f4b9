/- FindSimulation: the plain part. -/
import Derived.Test.YtfjbiiklggogkaaSim
import Derived.Test.YtfjbiiklggogkaaApp
import Derived.Test.YtfjbiiklggogkaaHelpInt
namespace Go.Proofs.Ytfjbiiklggogkaa
open Go.RowKit
set_option linter.all false

def simGo : List ByteArray → List ByteArray → Nat → Option (List Int)
  | [], _, _ => some []
  | _ :: _, [], _ => none
  | s :: ss, t :: ts, k => if t.toList == s.toList then (simGo ss ts (k + 1)).map ((k : Int) :: ·) else simGo (s :: ss) ts (k + 1)
theorem drop_cons' {α : Type} {xs : List α} {k : Nat} {x : α} (h : xs[k]? = some x) : xs.drop k = x :: xs.drop (k + 1) := by
  obtain ⟨hk, rfl⟩ := List.getElem?_eq_some_iff.1 h
  exact List.drop_eq_getElem_cons hk
theorem simGo_len : ∀ (ts ss : List ByteArray) (k : Nat) (l : List Int), simGo ss ts k = some l → l.length = ss.length := by
  intro ts
  induction ts with
  | nil => intro ss k l h; cases ss with
    | nil => simp [simGo] at h; subst h; rfl
    | cons s ss => simp [simGo] at h
  | cons t ts ih => intro ss k l h; cases ss with
    | nil => simp [simGo] at h; subst h; rfl
    | cons s ss =>
      unfold simGo at h
      split at h
      · obtain ⟨l', h1, rfl⟩ := Option.map_eq_some_iff.1 h
        simp [ih ss _ l' h1]
      · exact ih (s :: ss) _ l h
def headB (ss ts : List ByteArray) : Bool := match ts, ss with | t :: _, s :: _ => t.toList == s.toList | _, _ => false
def findSim (ss ts : List ByteArray) : List Int × Int :=
  if sourceB ss && decide (ts.length ≤ 600) then
    (if headB ss ts then (match simGo ss ts 0 with | none => ([], 3) | some l => (l, 0)) else ([], 3))
  else ([], 2)
theorem bndFindSimulation0 (ss ts : List ByteArray) (h1 : ss.length ≤ 1048576) (h2 : ts.length ≤ 1048576) : (findSim ss ts).1.length ≤ 1048576 := by
  unfold findSim
  split
  · split
    · split
      · simp
      · rename_i l h; rw [simGo_len _ _ _ _ h]; exact h1
    · simp
  · simp
/-- Where the search stands: 'i' texts found, at places 'acc', the next place is 'k'. -/
def SimRel (ss ts : List ByteArray) (i k : Nat) (acc : List Int) : Prop := simGo ss ts 0 = (simGo (ss.drop i) (ts.drop k) k).map (acc ++ ·)
theorem simRel_start (ss ts : List ByteArray) : SimRel ss ts 0 0 [] := by unfold SimRel; simp
theorem simRel_hit {ss ts : List ByteArray} {i k : Nat} {acc : List Int} {s t : ByteArray} (h : SimRel ss ts i k acc) (hs : ss[i]? = some s) (ht : ts[k]? = some t) (e : (t.toList == s.toList) = true) : SimRel ss ts (i + 1) (k + 1) (acc ++ [(k : Int)]) := by
  unfold SimRel at *
  rw [h, drop_cons' hs, drop_cons' ht]
  conv => lhs; unfold simGo
  rw [if_pos e]
  cases simGo (ss.drop (i + 1)) (ts.drop (k + 1)) (k + 1) <;> simp
theorem simRel_miss {ss ts : List ByteArray} {i k : Nat} {acc : List Int} {s t : ByteArray} (h : SimRel ss ts i k acc) (hs : ss[i]? = some s) (ht : ts[k]? = some t) (e : (t.toList == s.toList) = false) : SimRel ss ts i (k + 1) acc := by
  unfold SimRel at *
  rw [h, drop_cons' hs, drop_cons' ht]
  conv => lhs; unfold simGo
  rw [if_neg (by rw [e]; simp)]
theorem simRel_none {ss ts : List ByteArray} {i k : Nat} {acc : List Int} (h : SimRel ss ts i k acc) (hi : i < ss.length) (hk : ts.length ≤ k) : simGo ss ts 0 = none := by
  unfold SimRel at h
  rw [h, List.drop_of_length_le hk, List.drop_eq_getElem_cons hi]; rfl
theorem simRel_done {ss ts : List ByteArray} {i k : Nat} {acc : List Int} (h : SimRel ss ts i k acc) (hi : ss.length ≤ i) : simGo ss ts 0 = some acc := by
  unfold SimRel at h
  rw [h, List.drop_of_length_le hi]
  cases ts.drop k <;> simp [simGo]
theorem head_is {ss ts : List ByteArray} {s t : ByteArray} (hs : ss[0]? = some s) (ht : ts[0]? = some t) : headB ss ts = (t.toList == s.toList) := by
  cases ss with
  | nil => simp at hs
  | cons a as2 => cases ts with
    | nil => simp at ht
    | cons b bs => simp at hs ht; subst hs; subst ht; rfl
theorem find_no {ss ts : List ByteArray} (h : (sourceB ss && decide (ts.length ≤ 600)) = false) : findSim ss ts = ([], 2) := by unfold findSim; rw [h]; rfl
theorem find_none {ss ts : List ByteArray} (h : (sourceB ss && decide (ts.length ≤ 600)) = true) (h2 : simGo ss ts 0 = none) : findSim ss ts = ([], 3) := by unfold findSim; rw [h, h2]; simp
theorem find_head {ss ts : List ByteArray} (h : (sourceB ss && decide (ts.length ≤ 600)) = true) (h2 : headB ss ts = false) : findSim ss ts = ([], 3) := by unfold findSim; rw [h, h2]; simp
theorem find_some {ss ts : List ByteArray} {l : List Int} (h : (sourceB ss && decide (ts.length ≤ 600)) = true) (h1 : headB ss ts = true) (h2 : simGo ss ts 0 = some l) : findSim ss ts = (l, 0) := by unfold findSim; rw [h, h1, h2]; simp
theorem ends2' {v : Value} {a b : Int} (h : a = b) : Ending.returned (.tuple #[v, .int .i64 a]) = .returned (.tuple #[v, .int .i64 b]) := by rw [h]
theorem own_nil2 {w : World} {B : Nat} {r : List Int × Int} {k : Int} (h : r = ([], k)) : w.ownsRow B 2 1 (.slice none 0 0) r.1.length (r.1.map (.int .i64)) := by
  rw [h]; exact World.ownsRow_nil _ _ _ _
theorem own_fit2 {w : World} {B n : Nat} {v : Value} {r : List Int × Int} {k : Int} {xs : List Int} (h : r = (xs, k)) (hl : xs.length = n) (ho : w.ownsRow B 2 1 v n (xs.map (.int .i64))) : w.ownsRow B 2 1 v r.1.length (r.1.map (.int .i64)) := by
  subst hl; rw [h]; exact ho
end Go.Proofs.Ytfjbiiklggogkaa
