/- Lambda terms as trees, their elements and their texts; a text whose numbers are single digits, read. Plain lemmas. -/
import Derived.Test.YtkiaclajjlidoaaGreatDoorLamC
import Derived.Lib.ItoaNum
namespace Go.Proofs.YtkiaclajjlidoaaGreatDoor
open Go.RowKit
set_option linter.all false

inductive LTm where
  | v (n : Nat)
  | ab (t : LTm)
  | ap (s t : LTm)
def LTm.flat : LTm → List R2
  | .v n => [⟨0, (n : Int)⟩]
  | .ab t => ⟨1, 0⟩ :: t.flat
  | .ap s t => ⟨2, 0⟩ :: (s.flat ++ t.flat)
def LTm.text : LTm → List UInt8
  | .v n => [UInt8.ofNat (48 + n)]
  | .ab t => 94 :: t.text
  | .ap s t => 40 :: (s.text ++ 32 :: (t.text ++ [41]))
def LTm.small : LTm → Bool
  | .v n => decide (n < 10)
  | .ab t => t.small
  | .ap s t => s.small && t.small
theorem lOk_v0 {x : R2} (h : x.a = 0) : lOk x = inB x.b 0 399 := by unfold lOk; rw [h]; simp
def digB (b : UInt8) : Bool := decide (48 ≤ b.toNat) && decide (b.toNat ≤ 57)
/-- The elements of a text, each digit a number. -/
def rdT : List UInt8 → List R2
  | [] => []
  | b :: r => if b = 40 then ⟨2, 0⟩ :: rdT r else if b = 32 ∨ b = 41 then rdT r else if b = 94 then ⟨1, 0⟩ :: rdT r else ⟨0, (b.toNat : Int) - 48⟩ :: rdT r
/-- No other byte, and no digit behind a digit. -/
def okT : List UInt8 → Bool
  | [] => true
  | b :: r => (b == 40 || b == 32 || b == 41 || b == 94 || (digB b && !digB (r.headD 0))) && okT r
theorem rdT_app (r : List UInt8) : rdT (40 :: r) = ⟨2, 0⟩ :: rdT r := by rw [rdT, if_pos rfl]
theorem rdT_abs (r : List UInt8) : rdT (94 :: r) = ⟨1, 0⟩ :: rdT r := by
  rw [rdT, if_neg (by decide), if_neg (by decide), if_pos rfl]
theorem rdT_blank (r : List UInt8) : rdT (32 :: r) = rdT r := by rw [rdT, if_neg (by decide), if_pos (by decide)]
theorem rdT_close (r : List UInt8) : rdT (41 :: r) = rdT r := by rw [rdT, if_neg (by decide), if_pos (by decide)]
theorem dig_toNat {d : Nat} (h : d < 10) : (UInt8.ofNat (48 + d)).toNat = 48 + d := by rw [UInt8.toNat_ofNat']; omega
theorem rdT_dig {d : Nat} (h : d < 10) (r : List UInt8) : rdT (UInt8.ofNat (48 + d) :: r) = ⟨0, (d : Int)⟩ :: rdT r := by
  have h1 := dig_toNat h
  have ne : ∀ b : UInt8, b.toNat < 48 ∨ 57 < b.toNat → ¬ UInt8.ofNat (48 + d) = b := by
    intro b hb e
    rw [e] at h1; omega
  rw [rdT, if_neg (ne 40 (by decide)), if_neg (by intro e; rcases e with e | e; exact ne 32 (by decide) e; exact ne 41 (by decide) e), if_neg (ne 94 (by decide)), h1]
  congr 2
  omega
theorem okT_cases {b : UInt8} {r : List UInt8} (h : okT (b :: r) = true) : okT r = true ∧
    (b = 40 ∨ b = 32 ∨ b = 41 ∨ b = 94 ∨ ∃ d : Nat, d < 10 ∧ b = UInt8.ofNat (48 + d) ∧ digB (r.headD 0) = false) := by
  rw [okT, Bool.and_eq_true] at h
  refine ⟨h.2, ?_⟩
  have h1 := h.1
  simp only [Bool.or_eq_true, beq_iff_eq, Bool.and_eq_true, digB, decide_eq_true_eq, Bool.not_eq_true'] at h1
  rcases h1 with (((h1 | h1) | h1) | h1) | ⟨⟨h1, h2⟩, h3⟩
  · exact .inl h1
  · exact .inr (.inl h1)
  · exact .inr (.inr (.inl h1))
  · exact .inr (.inr (.inr (.inl h1)))
  · refine .inr (.inr (.inr (.inr ⟨b.toNat - 48, by omega, ?_, h3⟩)))
    apply UInt8.toNat_inj.1
    rw [dig_toNat (by omega)]; omega
theorem rdT_len (l : List UInt8) : (rdT l).length ≤ l.length := by
  induction l with
  | nil => exact Nat.le_refl _
  | cons b r ih =>
    rw [rdT]
    split
    · rw [List.length_cons, List.length_cons]; omega
    split
    · rw [List.length_cons]; omega
    split
    · rw [List.length_cons, List.length_cons]; omega
    · rw [List.length_cons, List.length_cons]; omega
theorem LTm.flat_pos (t : LTm) : 0 < t.flat.length := by cases t <;> simp [LTm.flat]
theorem LTm.text_len (t : LTm) : t.text.length ≤ 4 * t.flat.length ∧ t.flat.length ≤ t.text.length := by
  induction t with
  | v n => simp [LTm.text, LTm.flat]
  | ab t ih => simp only [LTm.text, LTm.flat, List.length_cons]; omega
  | ap s t ih1 ih2 => simp only [LTm.text, LTm.flat, List.length_cons, List.length_append, List.length_nil]; omega
/-- All indices are below 400. -/
def LTm.idx : LTm → Bool
  | .v n => decide (n < 400)
  | .ab t => t.idx
  | .ap s t => s.idx && t.idx
theorem LTm.small_idx : ∀ t : LTm, t.small = true → t.idx = true
  | .v n, h => by
    have h1 : n < 10 := by simpa [LTm.small] using h
    simp only [LTm.idx, decide_eq_true_eq]; omega
  | .ab t, h => by
    rw [LTm.idx]; exact LTm.small_idx t (by simpa [LTm.small] using h)
  | .ap s t, h => by
    have h1 : s.small = true ∧ t.small = true := by simpa [LTm.small] using h
    rw [LTm.idx, LTm.small_idx s h1.1, LTm.small_idx t h1.2]; rfl
theorem LTm.flat_fit : ∀ t : LTm, fit lFol 1 t.flat = true
  | .v n => by
    rw [LTm.flat, show (1 : Nat) = 0 + 1 from rfl, fit_sc, lFol_0 rfl]
    exact fit_00 lFol
  | .ab t => by
    rw [LTm.flat, show (1 : Nat) = 0 + 1 from rfl, fit_sc, lFol_1 rfl]
    exact LTm.flat_fit t
  | .ap s t => by
    rw [LTm.flat, show (1 : Nat) = 0 + 1 from rfl, fit_sc, lFol_2 rfl]
    exact fit_app lFol s.flat 1 1 t.flat (LTm.flat_fit s) (LTm.flat_fit t)
theorem LTm.flat_ok : ∀ t : LTm, t.idx = true → t.flat.all lOk = true
  | .v n, h => by
    have h1 : n < 400 := by simpa [LTm.idx] using h
    rw [LTm.flat, List.all_cons, lOk_v0 rfl, (inB_iff _ _ _).2 (by simp only; omega)]; rfl
  | .ab t, h => by
    rw [LTm.flat, List.all_cons, LTm.flat_ok t (by simpa [LTm.idx] using h)]; rfl
  | .ap s t, h => by
    have h1 : s.idx = true ∧ t.idx = true := by simpa [LTm.idx] using h
    rw [LTm.flat, List.all_cons, List.all_append, LTm.flat_ok s h1.1, LTm.flat_ok t h1.2]; rfl
theorem LTm.flat_validI (t : LTm) (h : t.idx = true) (hl : t.flat.length ≤ 400) : validT t.flat = true := by
  unfold validT
  rw [(inB_iff _ _ _).2 (by have := t.flat_pos; omega), t.flat_ok h, t.flat_fit]; rfl
theorem LTm.flat_valid (t : LTm) (h : t.small = true) (hl : t.flat.length ≤ 400) : validT t.flat = true := t.flat_validI (t.small_idx h) hl
/-- A text that is a valid term's. -/
structure TxOk (l : List UInt8) (t : LTm) : Prop where
  text : t.text = l
  ok : okT l = true
  rd : rdT l = t.flat
  small : t.small = true
  valid : validT t.flat = true
  len : l.length ≤ 60
end Go.Proofs.YtkiaclajjlidoaaGreatDoor
