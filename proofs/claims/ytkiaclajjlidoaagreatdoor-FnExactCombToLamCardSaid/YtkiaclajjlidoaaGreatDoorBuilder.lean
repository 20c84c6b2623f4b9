/- strings.Builder: one that the call itself has made, written byte by byte and read once. -/
import Derived.Test.YtkiaclajjlidoaaGreatDoorApp
import Derived.Shelf.Strings.Builder1
namespace Go.Proofs
open Go.Shelf
def Tryz.lays169_ren : Go.Shelf.Ren := ⟨fun | 169 => 90 | n => n, fun | 70 => 112 | 9 => 9 | 0 => 0 | 72 => 115 | 37 => 113 | 127 => 141 | 3 => 3 | 5 => 5 | n => n, fun | n => n⟩
theorem Tryz.lays169 : Go.Proofs.Lays.n169 Tryz.prog Tryz.lays169_ren := {
  mixed := by kernel_rfl
  f169 := Tryz.func90.trans (congrArg some (by kernel_rfl))
  t0 := Tryz.underlying0
  a0 := Tryz.isAgg0
  z0 := Tryz.sizeOf0
  v0 := Tryz.zeroValue0
  t3 := Tryz.underlying3
  a3 := Tryz.isAgg3
  z3 := Tryz.sizeOf3
  v3 := Tryz.zeroValue3
  t9 := Tryz.underlying9
  a9 := Tryz.isAgg9
  z9 := Tryz.sizeOf9
  v9 := Tryz.zeroValue9
  t37 := Tryz.underlying113
  a37 := Tryz.isAgg113
  z37 := Tryz.sizeOf113
  v37 := Tryz.zeroValue113
  t70 := Tryz.underlying112
  a70 := Tryz.isAgg112
  z70 := Tryz.sizeOf112
  v70 := Tryz.zeroValue112
  t72 := Tryz.underlying115
  a72 := Tryz.isAgg115
  z72 := Tryz.sizeOf115
  v72 := Tryz.zeroValue115
  t127 := Tryz.underlying141
  a127 := Tryz.isAgg141
  z127 := Tryz.sizeOf141
  v127 := Tryz.zeroValue141 }
theorem Tryz.Builder_Extra_169 : Builder.Extra Tryz.prog Tryz.lays169_ren := {
  sizeBuilder := by kernel_rfl
  liesBuilder := by kernel_rfl
  t5 := Tryz.underlying5
  a5 := Tryz.isAgg5
  z5 := Tryz.sizeOf5
  v5 := Tryz.zeroValue5
  infoByte := by kernel_rfl
  cellsByte := by kernel_rfl
  sizeByte := by kernel_rfl
  neB5 := by decide }
open Go.RowKit in
theorem Tryz.Builder_String_any (B b : Nat) (l : List UInt8) (w : World) (h : Lib.IsBuilder 115 5 B b (Lib.byteCells l) w) (hBw : B ≤ w.heap.size) :
    Calls Tryz.prog 90 #[.pointer (some ⟨b, 0, none⟩)] w fun e w' => e = .returned (.string ⟨l.toArray⟩) ∧ Below B w w' := Any.Builder_String_any Tryz.lays169 Tryz.Builder_Extra_169 B b l w h hBw
namespace YtkiaclajjlidoaaGreatDoor
open Go.RowKit
set_option linter.all false

/-- Of the blocks that were there, only such of a builder's and of bytes may have turned. -/
structure KeepB (w w' : World) : Prop where
  os : w'.os = w.os
  tape : w'.tape = w.tape
  output : w'.output = w.output
  size : w.heap.size ≤ w'.heap.size
  block : ∀ (g : Nat) (cs : Array Value) (t : TypeId) (fr : Nat × Nat), w.heap[g]? = some (.cells cs t fr) → t ≠ 115 → t ≠ 5 → w'.heap[g]? = some (.cells cs t fr)
theorem KeepB.refl (w : World) : KeepB w w := ⟨rfl, rfl, rfl, Nat.le_refl _, fun _ _ _ _ h _ _ => h⟩
theorem KeepB.trans {a b c : World} (h : KeepB a b) (k : KeepB b c) : KeepB a c :=
  ⟨k.os.trans h.os, k.tape.trans h.tape, k.output.trans h.output, Nat.le_trans h.size k.size, fun g cs t fr hg h1 h2 => k.block g cs t fr (h.block g cs t fr hg h1 h2) h1 h2⟩
theorem KeepB.drew {a b : World} (h : KeepB a b) : KeepB a b.drew := ⟨h.os, h.tape, h.output, h.size, h.block⟩

theorem infoU8 : (Tryz.prog.info? 5).map (fun i => (i.zero, i.size, i.bytes)) = some (some (.int .u8 0), 1, 1) := by kernel_rfl

theorem sizeBld : (Tryz.prog.info? 115).map (·.size) = some 2 := by kernel_rfl
theorem liesBld : liesAt Tryz.prog Tryz.prog.depth 115 (2 / Tryz.prog.cellsOf 115) 0 115 1 = true := by kernel_rfl
set_option maxRecDepth 100000 in
theorem copyCheck_any (B b : Nat) (bs : List Value) (w : World) (h : Lib.IsBuilder 115 5 B b bs w) :
    Calls Tryz.prog 122 #[.pointer (some ⟨b, 0, none⟩)] w fun e w' => e = .returned (.tuple #[]) ∧ Lib.BuilderAt 115 5 B b (.pointer (some ⟨b, 0, none⟩)) bs w' ∧ Below B w w' ∧ KeepB w w' := by
  rcases h with h | h
  · have hB := h.1
    have hc := h.cell0
    have hf := h.frozen0
    have hsh := h.shape
    have HU := Lib.hid (h.used (.pointer (some ⟨b, 0, none⟩)))
    have HK : Hid (KeepB w (w.setCell ⟨b, 0, none⟩ (.pointer (some ⟨b, 0, none⟩)))) := by
      obtain ⟨_, v, hb, _⟩ := h
      refine ⟨rfl, rfl, rfl, by simp [World.setCell], fun g cs t fr hg h1 h2 => heap_set_other hg _ (fun e => ?_) _⟩
      have e' : g = b := e
      subst e'
      rw [hb] at hg
      injection hg with hg
      injection hg with _ ht
      exact h1 ht.symm
    clear h
    go_enter Tryz.func122, Tryz.ntmps122
    obtain ⟨j, hj, hjs⟩ := Option.map_eq_some_iff.1 sizeBld
    have HJ := Lib.hid hj
    clear hj
    go_wp2_with fail
    rw [Lib.run_to_unsafe w ⟨b, 0, none⟩ Tryz.underlying112 Tryz.underlying172 HJ.out (by rw [hjs]; decide) hsh (Nat.zero_lt_succ 1)]
    simp only [Result.andThen]
    rw [Oper.upon_value]
    go_wp2_with fail
    rw [run_callFunc_extern Tryz.func135 (by kernel_rfl) (by kernel_rfl) (by kernel_rfl) (e := Extern.AbiNoEscape.same) (by kernel_rfl)]
    rw [Lib.run_noEscape]
    simp only [Result.andThen]
    rw [Oper.upon_value]
    go_wp2_with fail
    rw [Lib.run_from_unsafe w ⟨b, 0, none⟩ Tryz.underlying172 Tryz.underlying112 HJ.out hsh liesBld]
    simp only [Result.andThen]
    rw [Oper.upon_value]
    go_wp2_with fail
    go_end0
    exact ⟨rfl, HU.out, (Below.refl B w).setCell (p := ⟨b, 0, none⟩) hB _, HK.out⟩
  · have hc := h.cell0
    have H := Lib.hid h
    clear h
    obtain ⟨j, hj, _⟩ := Option.map_eq_some_iff.1 sizeBld
    have HJ := Lib.hid hj
    clear hj
    go_enter Tryz.func122, Tryz.ntmps122
    go_wp2_with fail
    rw [Lib.run_neq_ptr_same w _ Tryz.underlying112 HJ.out]
    go_wp2_with fail
    go_end0
    exact ⟨rfl, H.out, Below.refl B _, KeepB.refl _⟩

theorem bld_keep {w1 w2 : World} {b : Nat} {p v : Value} {t : TypeId} (hg2 : w1.grownBy w2 v.ownBlock) (hb : w1.heap[b]? = some (.cells #[p, v] t (0, 0))) (hne : v.ownBlock ≠ some b) :
    w2.cell? ⟨b, 1, none⟩ = some v ∧ w2.frozen? ⟨b, 1, none⟩ = false ∧ Hid (w2.heap[b]? = some (.cells #[p, v] t (0, 0))) := by
  have hb2 := grown_keep hg2 hb (fun e => hne e.symm)
  exact ⟨by rw [cell_of_heap hb2]; rfl, frozen_of_heap hb2, hb2⟩
set_option maxRecDepth 100000 in
/-- WriteByte. -/
theorem writeByte_any (B b : Nat) (bs : List Value) (c : Int) (w : World) (h : Lib.IsBuilder 115 5 B b bs w) (hlen : bs.length + 1 ≤ 8388608) (hBw : B ≤ w.heap.size) :
    Calls Tryz.prog 108 #[.pointer (some ⟨b, 0, none⟩), .int .u8 c] w fun e w' => e = .returned .nilIface ∧ Lib.IsBuilder 115 5 B b (bs ++ [.int .u8 c]) w' ∧ Below B w w' ∧ KeepB w w' := by
  go_enter Tryz.func108, Tryz.ntmps108
  go_wp2_with fail
  refine (copyCheck_any B b bs w h).mono ?_
  rintro e w1 ⟨rfl, ⟨hB, v, hb, hown, hne⟩, hBl, hK⟩
  have hc1 : w1.cell? ⟨b, 1, none⟩ = some v := by rw [cell_of_heap hb]; rfl
  have HB := Lib.hid hb
  have hsz := hBl.size
  have hlt := heap_lt hb
  clear hb h
  go_wp2_with (at_builtin; refine wpList_appg rfl _ _ _ rfl Tryz.underlying113 infoU8 rfl (by omega) B w1 hown (by omega) rfl 1 #[.int .u8 c] rfl (laid_below _ _) (heap_alloc_new _ _) rfl (by simp [Value.oneCell']) (by omega) (by unfold maxLen; omega) (by omega) ?_; intro g cap w2 hown2 hg2; obtain ⟨hc2, hf2, HB2⟩ := bld_keep hg2 HB.out hne)
  go_ret
  refine ⟨rfl, .inr (Lib.BuilderAt.put hB HB2.out (by simpa using hown2) (by decide)), ?_, ?_⟩
  · exact (hBl.trans ((Below.refl B w1).grown hg2 (by omega) fun k hk => (hown.lt k hk).1)).setCell hB _
  · refine hK.trans ⟨hg2.os, hg2.tape, hg2.output, by simpa [World.setCell] using hg2.size, fun g' cs t fr hg' h1 h2 => ?_⟩
    have e1 := grown_keep hg2 hg' (own_ne_block hown hg' (fun e => h2 e.symm))
    exact heap_set_other e1 _ (heap_ne e1 HB2.out h1) _
end YtkiaclajjlidoaaGreatDoor
end Go.Proofs
