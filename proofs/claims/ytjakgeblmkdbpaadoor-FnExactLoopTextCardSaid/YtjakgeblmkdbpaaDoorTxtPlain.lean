/- The text of a loop program, in plain words. -/
import Derived.Test.YtjakgeblmkdbpaaDoorNest
import Derived.Lib.Join
import Derived.Lib.ItoaNum
namespace Go.Proofs.YtjakgeblmkdbpaaDoor
open Go.RowKit
set_option linter.all false

def decT (n : Int) : List UInt8 := Lib.decDigits n.toNat
/-- The text of a command with the text of its body. -/
def cmdT (x : R3) (body : List UInt8) : List UInt8 :=
  if x.a = 0 then 33 :: decT x.b
  else if x.a = 1 then 43 :: decT x.b
  else if x.a = 2 then decT x.b ++ 61 :: decT x.c
  else if x.a = 3 then decT x.b ++ 42 :: 40 :: (body ++ [41])
  else decT x.b ++ 63 :: 40 :: (body ++ [41])
def textsL : List R3 → List (List UInt8)
  | [] => []
  | x :: l => cmdT x (Lib.join (textsL (l.take (bodyLen x))) [59]) :: textsL (l.drop (bodyLen x))
  termination_by l => l.length
  decreasing_by all_goals simp_wf; try omega
def textL (l : List R3) : List UInt8 := Lib.join (textsL l) [59]
def tailT (l : List R3) : List UInt8 := Lib.joinTail [59] (textsL l)
theorem textsL_nil : textsL [] = [] := by rw [textsL]
theorem textsL_cons (x : R3) (l : List R3) : textsL (x :: l) = cmdT x (textL (l.take (bodyLen x))) :: textsL (l.drop (bodyLen x)) := by rw [textsL]; rfl
theorem textL_nil : textL [] = [] := by unfold textL; rw [textsL_nil]; rfl
theorem textL_cons (x : R3) (l : List R3) : textL (x :: l) = cmdT x (textL (l.take (bodyLen x))) ++ tailT (l.drop (bodyLen x)) := by
  conv => lhs; unfold textL
  rw [textsL_cons, Lib.join_cons]; rfl
theorem tailT_nil : tailT [] = [] := by unfold tailT; rw [textsL_nil]; rfl
theorem tailT_cons (x : R3) (l : List R3) : tailT (x :: l) = 59 :: textL (x :: l) := by
  unfold tailT textL
  rw [textsL_cons, Lib.join_cons]
  simp [Lib.joinTail]
theorem decT_len {n : Int} (h : 0 ≤ n ∧ n ≤ 15) : (decT n).length ≤ 2 := by
  unfold decT
  by_cases h1 : n.toNat < 10
  · rw [Lib.decDigits_one h1]; simp
  · rw [Lib.decDigits_two h1 (by omega)]; simp
theorem cmdT_len {x : R3} (body : List UInt8) (hb : 0 ≤ x.b ∧ x.b ≤ 15) (hc : x.a = 2 → 0 ≤ x.c ∧ x.c ≤ 15) : (cmdT x body).length ≤ 5 + body.length := by
  have h1 := decT_len hb
  unfold cmdT
  split
  · rw [List.length_cons]; omega
  split
  · rw [List.length_cons]; omega
  split
  · rename_i h2
    have h3 := decT_len (hc h2)
    rw [List.length_append, List.length_cons]; omega
  split
  · rw [List.length_append, List.length_cons, List.length_cons, List.length_append, List.length_singleton]; omega
  · rw [List.length_append, List.length_cons, List.length_cons, List.length_append, List.length_singleton]; omega
theorem tail_len (l : List R3) : (textL l).length ≤ (tailT l).length := by
  cases l with
  | nil => rw [textL_nil]; simp
  | cons x l => rw [tailT_cons]; simp
theorem tailT_len (N : Nat) : ∀ (d : Nat) (l : List R3), l.length ≤ N → vl d l = true → (tailT l).length ≤ 6 * l.length := by
  induction N with
  | zero =>
    intro d l h _
    have : l = [] := List.length_eq_zero_iff.1 (by omega)
    subst this
    rw [tailT_nil]; simp
  | succ N ih =>
    intro d l h hv
    cases l with
    | nil => rw [tailT_nil]; simp
    | cons x l =>
      obtain ⟨h1, h2, h3⟩ := vl_kind hv
      obtain ⟨g1, g2, g3⟩ := vl_step (d := d) (k := 0) (x := x) (xs := x :: l) rfl (by rw [List.drop_zero]; exact hv)
      rw [List.length_cons] at g1 h
      have e1 : (x :: l).drop (0 + 1 + bodyLen x) = l.drop (bodyLen x) := by rw [show 0 + 1 + bodyLen x = bodyLen x + 1 by omega, List.drop_succ_cons]
      rw [e1] at g2
      have hrest := ih d (l.drop (bodyLen x)) (by rw [List.length_drop]; omega) g2
      rw [List.length_drop] at hrest
      have hbody : (textL (l.take (bodyLen x))).length ≤ 6 * bodyLen x := by
        cases hl : isLp x with
        | false => rw [bodyLen_no hl, List.take_zero, textL_nil]; simp
        | true =>
          have hb := (g3 hl).1
          rw [show (x :: l).drop (0 + 1) = l from rfl] at hb
          have h5 := ih (d - 1) (l.take (bodyLen x)) (by rw [List.length_take]; omega) hb
          have h6 := tail_len (l.take (bodyLen x))
          rw [List.length_take] at h5
          omega
      have hcmd := cmdT_len (x := x) (textL (l.take (bodyLen x))) ⟨h1, h2⟩ (fun e => by
        rcases h3 with h | h | h | h | h
        · omega
        · omega
        · omega
        · omega
        · exact h.2)
      rw [tailT_cons, textL_cons, List.length_cons, List.length_append, List.length_cons]
      omega
theorem textL_len {d : Nat} {l : List R3} (h : vl d l = true) : (textL l).length ≤ 6 * l.length := Nat.le_trans (tail_len l) (tailT_len _ d l (Nat.le_refl _) h)

/-- The text of a loop program, if it is valid. -/
def loopTextOf (xs : List R3) : List UInt8 := if validL xs then textL xs else []
theorem loopTextOf_no {xs : List R3} (h : validL xs = false) : loopTextOf xs = [] := by unfold loopTextOf; rw [h]; rfl
theorem loopTextOf_yes {xs : List R3} (h : validL xs = true) : loopTextOf xs = textL xs := by unfold loopTextOf; rw [h]; rfl
theorem cat_ba (a b : List UInt8) : (⟨a.toArray⟩ ++ ⟨b.toArray⟩ : ByteArray) = ⟨(a ++ b).toArray⟩ := by rw [ByteArray.mk_append_mk]
theorem run_cat {P : Program} (a b : List UInt8) (h : a.length + b.length ≤ 9000000) (w : World) : (Op.stringOp .add ⟨a.toArray⟩ ⟨b.toArray⟩).run P w = .ok (.string ⟨(a ++ b).toArray⟩) w := by
  rw [run_string_add_sum w _ _ (by simp [ByteArray.size]; omega), cat_ba]
end Go.Proofs.YtjakgeblmkdbpaaDoor
