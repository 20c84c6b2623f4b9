/- The standard lambda terms: their names and texts, and that each text is a term's. Plain lemmas. -/
import Derived.Test.YtkiaclajjlidoaaGreatDoorLamTx
namespace Go.Proofs.YtkiaclajjlidoaaGreatDoor
open Go.RowKit
set_option linter.all false

/-- A term out of its elements. -/
def mkT : Nat → List R2 → LTm × List R2
  | 0, l => (.v 0, l)
  | _ + 1, [] => (.v 0, [])
  | n + 1, x :: l =>
    if x.a = 0 then (.v x.b.toNat, l)
    else if x.a = 1 then (.ab (mkT n l).1, (mkT n l).2)
    else (.ap (mkT n l).1 (mkT n (mkT n l).2).1, (mkT n (mkT n l).2).2)
def tmOf (l : List UInt8) : LTm := (mkT 40 (rdT l)).1
def txOkB (l : List UInt8) : Bool := decide ((tmOf l).text = l) && (okT l && (decide (rdT l = (tmOf l).flat) && ((tmOf l).small && decide (l.length ≤ 60))))
theorem TxOk.of {l : List UInt8} (h : txOkB l = true) : TxOk l (tmOf l) := by
  unfold txOkB at h
  simp only [Bool.and_eq_true, decide_eq_true_eq] at h
  exact ⟨h.1, h.2.1, h.2.2.1, h.2.2.2.1, (LTm.flat_valid _ h.2.2.2.1 (by have := (tmOf l).text_len.2; rw [h.1] at this; omega)), h.2.2.2.2⟩
def stdTab : List (List UInt8 × List UInt8) := [
  ([116, 114, 117, 101], [94, 94, 49]),
  ([102, 97, 108, 115, 101], [94, 94, 48]),
  ([110, 101, 120, 116], [94, 94, 94, 40, 49, 32, 40, 40, 50, 32, 49, 41, 32, 48, 41, 41]),
  ([97, 100, 100], [94, 94, 94, 94, 40, 40, 51, 32, 49, 41, 32, 40, 40, 50, 32, 49, 41, 32, 48, 41, 41]),
  ([109, 117, 108, 116, 105, 112, 108, 121], [94, 94, 94, 40, 50, 32, 40, 49, 32, 48, 41, 41]),
  ([112, 111, 119, 101, 114], [94, 94, 40, 48, 32, 49, 41]),
  ([122, 101, 114, 111], [94, 40, 40, 48, 32, 94, 94, 94, 48, 41, 32, 94, 94, 49, 41]),
  ([112, 97, 105, 114], [94, 94, 94, 40, 40, 48, 32, 50, 41, 32, 49, 41]),
  ([102, 105, 114, 115, 116], [94, 40, 48, 32, 94, 94, 49, 41]),
  ([115, 101, 99, 111, 110, 100], [94, 40, 48, 32, 94, 94, 48, 41]),
  ([102, 105, 120], [94, 40, 94, 40, 49, 32, 40, 48, 32, 48, 41, 41, 32, 94, 40, 49, 32, 40, 48, 32, 48, 41, 41, 41])]
def stdRev : List (List UInt8 × List UInt8) := [
  ([102, 105, 120], [94, 40, 94, 40, 49, 32, 40, 48, 32, 48, 41, 41, 32, 94, 40, 49, 32, 40, 48, 32, 48, 41, 41, 41]),
  ([115, 101, 99, 111, 110, 100], [94, 40, 48, 32, 94, 94, 48, 41]),
  ([102, 105, 114, 115, 116], [94, 40, 48, 32, 94, 94, 49, 41]),
  ([112, 97, 105, 114], [94, 94, 94, 40, 40, 48, 32, 50, 41, 32, 49, 41]),
  ([122, 101, 114, 111], [94, 40, 40, 48, 32, 94, 94, 94, 48, 41, 32, 94, 94, 49, 41]),
  ([112, 111, 119, 101, 114], [94, 94, 40, 48, 32, 49, 41]),
  ([109, 117, 108, 116, 105, 112, 108, 121], [94, 94, 94, 40, 50, 32, 40, 49, 32, 48, 41, 41]),
  ([97, 100, 100], [94, 94, 94, 94, 40, 40, 51, 32, 49, 41, 32, 40, 40, 50, 32, 49, 41, 32, 48, 41, 41]),
  ([110, 101, 120, 116], [94, 94, 94, 40, 49, 32, 40, 40, 50, 32, 49, 41, 32, 48, 41, 41]),
  ([102, 97, 108, 115, 101], [94, 94, 48]),
  ([116, 114, 117, 101], [94, 94, 49])]
def look (ps : List (List UInt8 × List UInt8)) (z : List UInt8) : Option (List UInt8) := (ps.find? fun p => p.1 == z).map (·.2)
theorem look_cons_same (k d : List UInt8) (ps : List (List UInt8 × List UInt8)) : look ((k, d) :: ps) k = some d := by simp [look]
theorem look_cons_other {k z : List UInt8} (d : List UInt8) (ps : List (List UInt8 × List UInt8)) (h : z ≠ k) : look ((k, d) :: ps) z = look ps z := by
  unfold look
  rw [List.find?_cons_of_neg (by simpa using fun e => h e.symm)]
theorem look_none {ps : List (List UInt8 × List UInt8)} {z : List UInt8} (h : ∀ p ∈ ps, p.1 ≠ z) : look ps z = none := by
  unfold look
  rw [List.find?_eq_none.2 (fun p hp => by simpa using h p hp)]; rfl
set_option maxRecDepth 100000 in
theorem std_ok : ∀ p ∈ stdTab, txOkB p.2 = true := by decide
set_option maxRecDepth 100000 in
theorem std_same : ∀ p ∈ stdTab, look stdRev p.1 = some p.2 ∧ look stdTab p.1 = some p.2 := by decide
set_option maxRecDepth 100000 in
theorem std_rev : ∀ p ∈ stdRev, p ∈ stdTab := by decide
theorem look_mem {ps : List (List UInt8 × List UInt8)} {z l : List UInt8} (h : look ps z = some l) : ∃ p ∈ ps, p.1 = z ∧ p.2 = l := by
  unfold look at h
  obtain ⟨p, h1, h2⟩ := Option.map_eq_some_iff.1 h
  exact ⟨p, List.mem_of_find?_eq_some h1, by simpa using List.find?_some h1, h2⟩
theorem look_rev (z : List UInt8) : look stdRev z = look stdTab z := by
  by_cases h : ∃ p ∈ stdTab, p.1 = z
  · obtain ⟨p, hp, rfl⟩ := h
    rw [(std_same p hp).1, (std_same p hp).2]
  · rw [look_none (fun p hp e => h ⟨p, std_rev p hp, e⟩), look_none (fun p hp e => h ⟨p, hp, e⟩)]
/-- What StandardLam gives. -/
def stdLam (s : ByteArray) : List R2 × Int := match look stdTab s.data.toList with
  | none => ([], 3)
  | some l => ((tmOf l).flat, 0)
theorem stdLam_none {s : ByteArray} (h : look stdTab s.data.toList = none) : stdLam s = ([], 3) := by unfold stdLam; rw [h]
theorem stdLam_some {s : ByteArray} {l : List UInt8} (h : look stdTab s.data.toList = some l) : stdLam s = ((tmOf l).flat, 0) := by unfold stdLam; rw [h]
theorem look_ok {z l : List UInt8} (h : look stdTab z = some l) : TxOk l (tmOf l) := by
  obtain ⟨p, h1, _, h3⟩ := look_mem h
  have := std_ok p h1
  rw [h3] at this
  exact TxOk.of this
theorem bndStandardLam0 (s : ByteArray) : (stdLam s).1.length ≤ 1048576 := by
  cases h : look stdTab s.data.toList with
  | none => rw [stdLam_none h]; simp
  | some l =>
    rw [stdLam_some h]
    have h1 := look_ok h
    have h2 := (tmOf l).text_len.2
    have h3 := h1.len
    rw [h1.text] at h2
    show (tmOf l).flat.length ≤ 1048576
    omega
end Go.Proofs.YtkiaclajjlidoaaGreatDoor
