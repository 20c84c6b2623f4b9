/- TreeText, the reference's and the program's. -/
import Derived.Test.YthanekchopkblaaTreeDepth
import Derived.Test.YthanekchopkblaaBuilder
import Derived.Test.YthanekchopkblaaTextPlain
namespace Go.Proofs.Ythanekchopkblaa
open Go.RowKit
set_option linter.all false

def textFn (b Bv : Nat) : Value := .func (.func 98) #[] #[.pointer (some ⟨b, 0, none⟩), .pointer (some ⟨Bv, 0, none⟩)]
theorem byteCells_append (a b : List UInt8) : Lib.byteCells (a ++ b) = Lib.byteCells a ++ Lib.byteCells b := by simp [Lib.byteCells]
theorem length_byteCells (a : List UInt8) : (Lib.byteCells a).length = a.length := by simp [Lib.byteCells]

set_option maxRecDepth 100000 in
set_option maxHeartbeats 1000000 in
theorem textVisit_any (w0 : World) (b Bv : Nat) (x : T) : ∀ (p : Option Addr) (w : World) (bs : List UInt8),
    Tr w0.heap.size w x p → Lib.IsBuilder 100 5 w0.heap.size b (Lib.byteCells bs) w → w.heap[Bv]? = some (.cells #[textFn b Bv] 89 (0, 0)) →
    Below w0.heap.size w0 w → bs.length + 2 * x.nodes ≤ 4194304 →
    Calls Try.prog 98 #[.pointer p, .pointer (some ⟨b, 0, none⟩), .pointer (some ⟨Bv, 0, none⟩)] w fun e w' => e = .returned (.tuple #[]) ∧
      Lib.IsBuilder 100 5 w0.heap.size b (Lib.byteCells (bs ++ x.text)) w' ∧ w'.heap[Bv]? = some (.cells #[textFn b Bv] 89 (0, 0)) ∧ Below w0.heap.size w0 w' := by
  induction x with
  | nil =>
    intro p w bs h hI hv hB hn
    have h' : p = none := h
    subst h'
    have hn' : bs.length + 2 ≤ 4194304 := hn
    have HV := Lib.hid hv
    clear hv
    go_enter Try.func98, Try.ntmps98
    go_wp2_with fail
    refine (writeByte_any w0.heap.size b _ 46 w hI (by rw [length_byteCells]; omega) hB.size).mono ?_
    rintro e w1 ⟨rfl, hI1, hB1, hK1⟩
    have HV1 := Lib.hid (hK1.block _ _ _ _ HV.out (by decide) (by decide))
    go_wp2_with fail
    refine bodyPost_ret (results_none rfl _ _ _) rfl ?_
    exact ⟨rfl, by rw [byteCells_append]; exact hI1, HV1.out, hB.trans hB1⟩
  | pair x y iha ihb =>
    intro p w bs h hI hv hB hn
    have HA := Lib.hid iha; have HBb := Lib.hid ihb
    clear iha ihb
    obtain ⟨g0, pa, pb, rfl, hg0, hh0, hta, htb⟩ := h
    have HV := Lib.hid hv
    have HH0 := Lib.hid ((hB.block g0 hg0).symm.trans hh0)
    have hta0 := Tr.back hB hta
    have htb0 := Tr.back hB htb
    have hn' : bs.length + 2 * (1 + x.nodes + y.nodes) ≤ 4194304 := hn
    have hlx := (text_le x).1
    have hly := (text_le y).1
    clear hv hh0 hta htb hn
    go_enter Try.func98, Try.ntmps98
    go_wp2_with fail
    refine (writeByte_any w0.heap.size b _ 40 w hI (by rw [length_byteCells]; omega) hB.size).mono ?_
    rintro e w1 ⟨rfl, hI1, hB1, hK1⟩
    have hv1 := hK1.block _ _ _ _ HV.out (by decide) (by decide)
    have hB1' := hB.trans hB1
    obtain ⟨hc1, _, HV1⟩ := var_facts hv1
    have hca : w1.cell? ⟨g0, 0, none⟩ = some (.pointer pa) := by rw [cell_of_heap ((hB1'.block g0 hg0).trans HH0.out)]; rfl
    have hta1 := hta0.below hB1'
    unfold textFn at hc1
    clear hv1 hB1 hK1 HV hI
    go_wp2_with fail
    go_still_tail 5, (by kernel_rfl)
    go_wp2_with fail
    refine (HA.out pa w1.drew (bs ++ [40]) (by exact hta1.drew) (by rw [byteCells_append]; exact hI1) (by exact HV1.out) (by exact hB1'.drew) (by simp; omega)).mono ?_
    rintro e w2 ⟨rfl, hI2, hv2, hB2⟩
    obtain ⟨hc2, _, HV2⟩ := var_facts hv2
    have hcb : w2.cell? ⟨g0, 1, none⟩ = some (.pointer pb) := by rw [cell_of_heap ((hB2.block g0 hg0).trans HH0.out)]; rfl
    have htb2 := htb0.below hB2
    unfold textFn at hc2
    clear hc1 hca hta1 HV1 hI1 hB1' HA hv2
    go_wp2_with fail
    go_still_tail 5, (by kernel_rfl)
    go_wp2_with fail
    refine (HBb.out pb w2.drew (bs ++ [40] ++ x.text) (by exact htb2.drew) (by exact hI2) (by exact HV2.out) (by exact hB2.drew) (by simp; omega)).mono ?_
    rintro e w3 ⟨rfl, hI3, hv3, hB3⟩
    have HV3 := Lib.hid hv3
    clear hc2 hcb htb2 HV2 hI2 hB2 HBb hv3
    go_wp2_with fail
    refine (writeByte_any w0.heap.size b _ 41 w3 hI3 (by rw [length_byteCells]; simp; omega) hB3.size).mono ?_
    rintro e w4 ⟨rfl, hI4, hB4, hK4⟩
    have HV4 := Lib.hid (hK4.block _ _ _ _ HV3.out (by decide) (by decide))
    go_wp2_with fail
    go_end0
    refine ⟨rfl, ?_, HV4.out, hB3.trans hB4⟩
    have e : bs ++ (T.pair x y).text = (bs ++ [40] ++ x.text ++ y.text) ++ [41] := by simp [T.text]
    rw [e, byteCells_append]
    exact hI4

set_option maxRecDepth 100000 in
theorem treeText_any (x : T) (p : Option Addr) (w : World) (h : Tr w.heap.size w x p) (hn : 2 * x.nodes ≤ 4194304) :
    Calls Try.prog 78 #[.pointer p] w fun e w' => e = .returned (.string ⟨x.text.toArray⟩) ∧ Below w.heap.size w w' := by
  go_enter Try.func78, Try.ntmps78
  go_wp2_with fail
  have hA := laid_below w (.cells #[.pointer none, .slice none 0 0] 100)
  have hA2 := laid_below (w.alloc (.cells #[.pointer none, .slice none 0 0] 100)) (.cells #[textFn w.heap.size (w.heap.size + 1)] 89)
  have hB := below_step hA hA2
  refine (textVisit_any w w.heap.size (w.heap.size + 1) x p _ [] (h.below hB) ?_ ?_ hB (by simpa using hn)).mono ?_
  · refine .inl ⟨Nat.le_refl _, .slice none 0 0, ?_, World.ownsRow_nil _ _ _ _, by simp [Value.ownBlock]⟩
    exact (hA2.block w.heap.size (by simp)).trans (heap_alloc_new w _)
  · have := heap_alloc_new (w.alloc (.cells #[.pointer none, .slice none 0 0] 100)) (.cells #[textFn w.heap.size (w.heap.size + 1)] 89)
    simpa using this
  rintro e w1 ⟨rfl, hI, _, hB1⟩
  clear hA hA2 hB
  go_wp2_with fail
  refine (Try.Builder_String_any w.heap.size w.heap.size x.text w1 (by simpa using hI) hB1.size).mono ?_
  rintro e w2 ⟨rfl, hB2⟩
  go_wp2_with fail
  go_ret
  exact ⟨rfl, hB1.trans hB2⟩

/-- The text of a list of nodes, or none. -/
def treeTextOf (t : List Bool) : List UInt8 := if isTreeB t then txt [] t else []
theorem treeTextOf_enc (x : T) (h : x.nodes ≤ 2000) : treeTextOf x.enc = x.text := by
  unfold treeTextOf
  rw [if_pos ((isTree_iff _).2 ⟨by rw [T.length_enc]; exact h, x, rfl⟩), txt_text]

set_option maxRecDepth 100000 in
theorem treeTextImpl_any (b off n c : Nat) (t : List Bool) (w : World) (hs : Sl w b off (t.map .bool)) (hl : t.length = n) (hn : n ≤ 4194304) :
    Calls Try.prog 40 #[.slice (some ⟨b, off, none⟩) n c] w fun e w' => e = .returned (.string ⟨(treeTextOf t).toArray⟩) ∧ Below w.heap.size w w' := by
  have HL := Lib.hid hl; clear hl
  rcases Bool.eq_false_or_eq_true (isTreeB t) with h | h
  · obtain ⟨h1, x, hx⟩ := (isTree_iff t).1 h
    have H := Lib.hid h; clear h
    subst hx
    have hnn : x.nodes ≤ 2000 := by rw [← T.length_enc]; exact h1
    have HN : Hid (x.nodes = n) := by have := HL.out; rw [T.length_enc] at this; exact this
    clear h1
    rw [treeTextOf_enc x hnn]
    go_enter Try.func40, Try.ntmps40
    go_wp2_with fail
    refine (isTree_is b off n c x.enc true H.out _ hs HL.out (by omega)).mono ?_
    rintro e w' ⟨rfl, rfl⟩
    go_wp2_with fail
    refine (treeOf_any b off n c x _ hs HN.out (by omega)).mono ?_
    rintro e w1 ⟨p, rfl, ht, hB⟩
    go_wp2_with fail
    refine (treeText_any x p w1 ht (by omega)).mono ?_
    rintro e w2 ⟨rfl, hB2⟩
    go_wp2_with fail
    go_ret
    exact ⟨rfl, below_step hB hB2⟩
  · have H := Lib.hid h; clear h
    have HE : Hid (treeTextOf t = []) := by unfold Hid treeTextOf; rw [H.out]; rfl
    go_enter Try.func40, Try.ntmps40
    go_wp2_with fail
    refine (isTree_is b off n c t false H.out _ hs HL.out (by omega)).mono ?_
    rintro e w' ⟨rfl, rfl⟩
    go_wp2_with fail
    go_ret
    rw [HE.out]
    exact ⟨rfl, Below.refl _ _⟩
end Go.Proofs.Ythanekchopkblaa
