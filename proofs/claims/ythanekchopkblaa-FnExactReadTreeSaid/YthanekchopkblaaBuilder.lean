/- strings.Builder: one that the call itself has made, written byte by byte and read once. -/
import Derived.Test.YthanekchopkblaaApp
import Derived.Shelf.Strings.Builder1
namespace Go.Proofs
open Go.Shelf
def Try.lays169_ren : Go.Shelf.Ren := ⟨fun | 169 => 100 | n => n, fun | 70 => 98 | 9 => 9 | 0 => 0 | 72 => 100 | 37 => 96 | 127 => 107 | 3 => 3 | 5 => 5 | n => n, fun | n => n⟩
theorem Try.lays169 : Go.Proofs.Lays.n169 Try.prog Try.lays169_ren := {
  mixed := by kernel_rfl
  f169 := Try.func100.trans (congrArg some (by kernel_rfl))
  t0 := Try.underlying0
  a0 := Try.isAgg0
  z0 := Try.sizeOf0
  v0 := Try.zeroValue0
  t3 := Try.underlying3
  a3 := Try.isAgg3
  z3 := Try.sizeOf3
  v3 := Try.zeroValue3
  t9 := Try.underlying9
  a9 := Try.isAgg9
  z9 := Try.sizeOf9
  v9 := Try.zeroValue9
  t37 := Try.underlying96
  a37 := Try.isAgg96
  z37 := Try.sizeOf96
  v37 := Try.zeroValue96
  t70 := Try.underlying98
  a70 := Try.isAgg98
  z70 := Try.sizeOf98
  v70 := Try.zeroValue98
  t72 := Try.underlying100
  a72 := Try.isAgg100
  z72 := Try.sizeOf100
  v72 := Try.zeroValue100
  t127 := Try.underlying107
  a127 := Try.isAgg107
  z127 := Try.sizeOf107
  v127 := Try.zeroValue107 }
theorem Try.Builder_Extra_169 : Builder.Extra Try.prog Try.lays169_ren := {
  sizeBuilder := by kernel_rfl
  liesBuilder := by kernel_rfl
  t5 := Try.underlying5
  a5 := Try.isAgg5
  z5 := Try.sizeOf5
  v5 := Try.zeroValue5
  infoByte := by kernel_rfl
  cellsByte := by kernel_rfl
  sizeByte := by kernel_rfl
  neB5 := by decide }
open Go.RowKit in
theorem Try.Builder_String_any (B b : Nat) (l : List UInt8) (w : World) (h : Lib.IsBuilder 100 5 B b (Lib.byteCells l) w) (hBw : B ≤ w.heap.size) :
    Calls Try.prog 100 #[.pointer (some ⟨b, 0, none⟩)] w fun e w' => e = .returned (.string ⟨l.toArray⟩) ∧ Below B w w' := Any.Builder_String_any Try.lays169 Try.Builder_Extra_169 B b l w h hBw
namespace Ythanekchopkblaa
open Go.RowKit
set_option linter.all false

/-- Of the blocks that were there, only such of a builder's and of bytes may have turned. -/
structure KeepB (w w' : World) : Prop where
  os : w'.os = w.os
  tape : w'.tape = w.tape
  output : w'.output = w.output
  size : w.heap.size ≤ w'.heap.size
  block : ∀ (g : Nat) (cs : Array Value) (t : TypeId) (fr : Nat × Nat), w.heap[g]? = some (.cells cs t fr) → t ≠ 100 → t ≠ 5 → w'.heap[g]? = some (.cells cs t fr)
theorem KeepB.refl (w : World) : KeepB w w := ⟨rfl, rfl, rfl, Nat.le_refl _, fun _ _ _ _ h _ _ => h⟩
theorem KeepB.trans {a b c : World} (h : KeepB a b) (k : KeepB b c) : KeepB a c :=
  ⟨k.os.trans h.os, k.tape.trans h.tape, k.output.trans h.output, Nat.le_trans h.size k.size, fun g cs t fr hg h1 h2 => k.block g cs t fr (h.block g cs t fr hg h1 h2) h1 h2⟩
theorem KeepB.drew {a b : World} (h : KeepB a b) : KeepB a b.drew := ⟨h.os, h.tape, h.output, h.size, h.block⟩

theorem infoU8 : (Try.prog.info? 5).map (fun i => (i.zero, i.size, i.bytes)) = some (some (.int .u8 0), 1, 1) := by kernel_rfl

theorem sizeBld : (Try.prog.info? 100).map (·.size) = some 2 := by kernel_rfl
theorem liesBld : liesAt Try.prog Try.prog.depth 100 (2 / Try.prog.cellsOf 100) 0 100 1 = true := by kernel_rfl
set_option maxRecDepth 100000 in
theorem copyCheck_any (B b : Nat) (bs : List Value) (w : World) (h : Lib.IsBuilder 100 5 B b bs w) :
    Calls Try.prog 104 #[.pointer (some ⟨b, 0, none⟩)] w fun e w' => e = .returned (.tuple #[]) ∧ Lib.BuilderAt 100 5 B b (.pointer (some ⟨b, 0, none⟩)) bs w' ∧ Below B w w' ∧ KeepB w w' := by
  rcases h with h | h
  · have hB := h.1
    have hc := h.cell0
    have hf := h.frozen0
    have hsh := h.shape
    have HU := Lib.hid (h.used (.pointer (some ⟨b, 0, none⟩)))
    have HK : Hid (KeepB w (w.setCell ⟨b, 0, none⟩ (.pointer (some ⟨b, 0, none⟩)))) := by
      obtain ⟨_, v, hb, _⟩ := h
      refine ⟨rfl, rfl, rfl, by simp [World.setCell], fun g cs t fr hg h1 h2 => heap_set_other hg _ (fun e => ?_) _⟩
      have e' : g = b := e
      subst e'
      rw [hb] at hg
      injection hg with hg
      injection hg with _ ht
      exact h1 ht.symm
    clear h
    go_enter Try.func104, Try.ntmps104
    obtain ⟨j, hj, hjs⟩ := Option.map_eq_some_iff.1 sizeBld
    have HJ := Lib.hid hj
    clear hj
    go_wp2_with fail
    rw [Lib.run_to_unsafe w ⟨b, 0, none⟩ Try.underlying98 Try.underlying108 HJ.out (by rw [hjs]; decide) hsh (Nat.zero_lt_succ 1)]
    simp only [Result.andThen]
    rw [Oper.upon_value]
    go_wp2_with fail
    rw [run_callFunc_extern Try.func105 (by kernel_rfl) (by kernel_rfl) (by kernel_rfl) (e := Extern.AbiNoEscape.same) (by kernel_rfl)]
    rw [Lib.run_noEscape]
    simp only [Result.andThen]
    rw [Oper.upon_value]
    go_wp2_with fail
    rw [Lib.run_from_unsafe w ⟨b, 0, none⟩ Try.underlying108 Try.underlying98 HJ.out hsh liesBld]
    simp only [Result.andThen]
    rw [Oper.upon_value]
    go_wp2_with fail
    go_end0
    exact ⟨rfl, HU.out, (Below.refl B w).setCell (p := ⟨b, 0, none⟩) hB _, HK.out⟩
  · have hc := h.cell0
    have H := Lib.hid h
    clear h
    obtain ⟨j, hj, _⟩ := Option.map_eq_some_iff.1 sizeBld
    have HJ := Lib.hid hj
    clear hj
    go_enter Try.func104, Try.ntmps104
    go_wp2_with fail
    rw [Lib.run_neq_ptr_same w _ Try.underlying98 HJ.out]
    go_wp2_with fail
    go_end0
    exact ⟨rfl, H.out, Below.refl B _, KeepB.refl _⟩

theorem bld_keep {w1 w2 : World} {b : Nat} {p v : Value} {t : TypeId} (hg2 : w1.grownBy w2 v.ownBlock) (hb : w1.heap[b]? = some (.cells #[p, v] t (0, 0))) (hne : v.ownBlock ≠ some b) :
    w2.cell? ⟨b, 1, none⟩ = some v ∧ w2.frozen? ⟨b, 1, none⟩ = false ∧ Hid (w2.heap[b]? = some (.cells #[p, v] t (0, 0))) := by
  have hb2 := grown_keep hg2 hb (fun e => hne e.symm)
  exact ⟨by rw [cell_of_heap hb2]; rfl, frozen_of_heap hb2, hb2⟩
set_option maxRecDepth 100000 in
/-- WriteByte. -/
theorem writeByte_any (B b : Nat) (bs : List Value) (c : Int) (w : World) (h : Lib.IsBuilder 100 5 B b bs w) (hlen : bs.length + 1 ≤ 8388608) (hBw : B ≤ w.heap.size) :
    Calls Try.prog 99 #[.pointer (some ⟨b, 0, none⟩), .int .u8 c] w fun e w' => e = .returned .nilIface ∧ Lib.IsBuilder 100 5 B b (bs ++ [.int .u8 c]) w' ∧ Below B w w' ∧ KeepB w w' := by
  go_enter Try.func99, Try.ntmps99
  go_wp2_with fail
  refine (copyCheck_any B b bs w h).mono ?_
  rintro e w1 ⟨rfl, ⟨hB, v, hb, hown, hne⟩, hBl, hK⟩
  have hc1 : w1.cell? ⟨b, 1, none⟩ = some v := by rw [cell_of_heap hb]; rfl
  have HB := Lib.hid hb
  have hsz := hBl.size
  have hlt := heap_lt hb
  clear hb h
  go_wp2_with (at_builtin; refine wpList_appg rfl _ _ _ rfl Try.underlying96 infoU8 rfl (by omega) B w1 hown (by omega) rfl 1 #[.int .u8 c] rfl (laid_below _ _) (heap_alloc_new _ _) rfl (by simp [Value.oneCell']) (by omega) (by unfold maxLen; omega) (by omega) ?_; intro g cap w2 hown2 hg2; obtain ⟨hc2, hf2, HB2⟩ := bld_keep hg2 HB.out hne)
  go_ret
  refine ⟨rfl, .inr (Lib.BuilderAt.put hB HB2.out (by simpa using hown2) (by decide)), ?_, ?_⟩
  · exact (hBl.trans ((Below.refl B w1).grown hg2 (by omega) fun k hk => (hown.lt k hk).1)).setCell hB _
  · refine hK.trans ⟨hg2.os, hg2.tape, hg2.output, by simpa [World.setCell] using hg2.size, fun g' cs t fr hg' h1 h2 => ?_⟩
    have e1 := grown_keep hg2 hg' (own_ne_block hown hg' (fun e => h2 e.symm))
    exact heap_set_other e1 _ (heap_ne e1 HB2.out h1) _
end Ythanekchopkblaa
end Go.Proofs
