/- strings.Builder: one that the call itself has made, written byte by byte and read once. -/
import Derived.Test.YtkiaclajjlidoaaDoorApp
import Derived.Shelf.Strings.Builder1
namespace Go.Proofs
open Go.Shelf
def Tryd.lays169_ren : Go.Shelf.Ren := ⟨fun | 169 => 78 | n => n, fun | 70 => 122 | 9 => 9 | 0 => 0 | 72 => 125 | 37 => 123 | 127 => 160 | 3 => 3 | 5 => 5 | n => n, fun | n => n⟩
theorem Tryd.lays169 : Go.Proofs.Lays.n169 Tryd.prog Tryd.lays169_ren := {
  mixed := by kernel_rfl
  f169 := Tryd.func78.trans (congrArg some (by kernel_rfl))
  t0 := Tryd.underlying0
  a0 := Tryd.isAgg0
  z0 := Tryd.sizeOf0
  v0 := Tryd.zeroValue0
  t3 := Tryd.underlying3
  a3 := Tryd.isAgg3
  z3 := Tryd.sizeOf3
  v3 := Tryd.zeroValue3
  t9 := Tryd.underlying9
  a9 := Tryd.isAgg9
  z9 := Tryd.sizeOf9
  v9 := Tryd.zeroValue9
  t37 := Tryd.underlying123
  a37 := Tryd.isAgg123
  z37 := Tryd.sizeOf123
  v37 := Tryd.zeroValue123
  t70 := Tryd.underlying122
  a70 := Tryd.isAgg122
  z70 := Tryd.sizeOf122
  v70 := Tryd.zeroValue122
  t72 := Tryd.underlying125
  a72 := Tryd.isAgg125
  z72 := Tryd.sizeOf125
  v72 := Tryd.zeroValue125
  t127 := Tryd.underlying160
  a127 := Tryd.isAgg160
  z127 := Tryd.sizeOf160
  v127 := Tryd.zeroValue160 }
theorem Tryd.Builder_Extra_169 : Builder.Extra Tryd.prog Tryd.lays169_ren := {
  sizeBuilder := by kernel_rfl
  liesBuilder := by kernel_rfl
  t5 := Tryd.underlying5
  a5 := Tryd.isAgg5
  z5 := Tryd.sizeOf5
  v5 := Tryd.zeroValue5
  infoByte := by kernel_rfl
  cellsByte := by kernel_rfl
  sizeByte := by kernel_rfl
  neB5 := by decide }
open Go.RowKit in
theorem Tryd.Builder_String_any (B b : Nat) (l : List UInt8) (w : World) (h : Lib.IsBuilder 125 5 B b (Lib.byteCells l) w) (hBw : B ≤ w.heap.size) :
    Calls Tryd.prog 78 #[.pointer (some ⟨b, 0, none⟩)] w fun e w' => e = .returned (.string ⟨l.toArray⟩) ∧ Below B w w' := Any.Builder_String_any Tryd.lays169 Tryd.Builder_Extra_169 B b l w h hBw
namespace YtkiaclajjlidoaaDoor
open Go.RowKit
set_option linter.all false

/-- Of the blocks that were there, only such of a builder's and of bytes may have turned. -/
structure KeepB (w w' : World) : Prop where
  os : w'.os = w.os
  tape : w'.tape = w.tape
  output : w'.output = w.output
  size : w.heap.size ≤ w'.heap.size
  block : ∀ (g : Nat) (cs : Array Value) (t : TypeId) (fr : Nat × Nat), w.heap[g]? = some (.cells cs t fr) → t ≠ 125 → t ≠ 5 → w'.heap[g]? = some (.cells cs t fr)
theorem KeepB.refl (w : World) : KeepB w w := ⟨rfl, rfl, rfl, Nat.le_refl _, fun _ _ _ _ h _ _ => h⟩
theorem KeepB.trans {a b c : World} (h : KeepB a b) (k : KeepB b c) : KeepB a c :=
  ⟨k.os.trans h.os, k.tape.trans h.tape, k.output.trans h.output, Nat.le_trans h.size k.size, fun g cs t fr hg h1 h2 => k.block g cs t fr (h.block g cs t fr hg h1 h2) h1 h2⟩
theorem KeepB.drew {a b : World} (h : KeepB a b) : KeepB a b.drew := ⟨h.os, h.tape, h.output, h.size, h.block⟩

theorem infoU8 : (Tryd.prog.info? 5).map (fun i => (i.zero, i.size, i.bytes)) = some (some (.int .u8 0), 1, 1) := by kernel_rfl

theorem sizeBld : (Tryd.prog.info? 125).map (·.size) = some 2 := by kernel_rfl
theorem liesBld : liesAt Tryd.prog Tryd.prog.depth 125 (2 / Tryd.prog.cellsOf 125) 0 125 1 = true := by kernel_rfl
set_option maxRecDepth 100000 in
theorem copyCheck_any (B b : Nat) (bs : List Value) (w : World) (h : Lib.IsBuilder 125 5 B b bs w) :
    Calls Tryd.prog 107 #[.pointer (some ⟨b, 0, none⟩)] w fun e w' => e = .returned (.tuple #[]) ∧ Lib.BuilderAt 125 5 B b (.pointer (some ⟨b, 0, none⟩)) bs w' ∧ Below B w w' ∧ KeepB w w' := by
  rcases h with h | h
  · have hB := h.1
    have hc := h.cell0
    have hf := h.frozen0
    have hsh := h.shape
    have HU := Lib.hid (h.used (.pointer (some ⟨b, 0, none⟩)))
    have HK : Hid (KeepB w (w.setCell ⟨b, 0, none⟩ (.pointer (some ⟨b, 0, none⟩)))) := by
      obtain ⟨_, v, hb, _⟩ := h
      refine ⟨rfl, rfl, rfl, by simp [World.setCell], fun g cs t fr hg h1 h2 => heap_set_other hg _ (fun e => ?_) _⟩
      have e' : g = b := e
      subst e'
      rw [hb] at hg
      injection hg with hg
      injection hg with _ ht
      exact h1 ht.symm
    clear h
    go_enter Tryd.func107, Tryd.ntmps107
    obtain ⟨j, hj, hjs⟩ := Option.map_eq_some_iff.1 sizeBld
    have HJ := Lib.hid hj
    clear hj
    go_wp2_with fail
    rw [Lib.run_to_unsafe w ⟨b, 0, none⟩ Tryd.underlying122 Tryd.underlying172 HJ.out (by rw [hjs]; decide) hsh (Nat.zero_lt_succ 1)]
    simp only [Result.andThen]
    rw [Oper.upon_value]
    go_wp2_with fail
    rw [run_callFunc_extern Tryd.func130 (by kernel_rfl) (by kernel_rfl) (by kernel_rfl) (e := Extern.AbiNoEscape.same) (by kernel_rfl)]
    rw [Lib.run_noEscape]
    simp only [Result.andThen]
    rw [Oper.upon_value]
    go_wp2_with fail
    rw [Lib.run_from_unsafe w ⟨b, 0, none⟩ Tryd.underlying172 Tryd.underlying122 HJ.out hsh liesBld]
    simp only [Result.andThen]
    rw [Oper.upon_value]
    go_wp2_with fail
    go_end0
    exact ⟨rfl, HU.out, (Below.refl B w).setCell (p := ⟨b, 0, none⟩) hB _, HK.out⟩
  · have hc := h.cell0
    have H := Lib.hid h
    clear h
    obtain ⟨j, hj, _⟩ := Option.map_eq_some_iff.1 sizeBld
    have HJ := Lib.hid hj
    clear hj
    go_enter Tryd.func107, Tryd.ntmps107
    go_wp2_with fail
    rw [Lib.run_neq_ptr_same w _ Tryd.underlying122 HJ.out]
    go_wp2_with fail
    go_end0
    exact ⟨rfl, H.out, Below.refl B _, KeepB.refl _⟩

theorem bld_keep {w1 w2 : World} {b : Nat} {p v : Value} {t : TypeId} (hg2 : w1.grownBy w2 v.ownBlock) (hb : w1.heap[b]? = some (.cells #[p, v] t (0, 0))) (hne : v.ownBlock ≠ some b) :
    w2.cell? ⟨b, 1, none⟩ = some v ∧ w2.frozen? ⟨b, 1, none⟩ = false ∧ Hid (w2.heap[b]? = some (.cells #[p, v] t (0, 0))) := by
  have hb2 := grown_keep hg2 hb (fun e => hne e.symm)
  exact ⟨by rw [cell_of_heap hb2]; rfl, frozen_of_heap hb2, hb2⟩
set_option maxRecDepth 100000 in
/-- WriteByte. -/
theorem writeByte_any (B b : Nat) (bs : List Value) (c : Int) (w : World) (h : Lib.IsBuilder 125 5 B b bs w) (hlen : bs.length + 1 ≤ 8388608) (hBw : B ≤ w.heap.size) :
    Calls Tryd.prog 150 #[.pointer (some ⟨b, 0, none⟩), .int .u8 c] w fun e w' => e = .returned .nilIface ∧ Lib.IsBuilder 125 5 B b (bs ++ [.int .u8 c]) w' ∧ Below B w w' ∧ KeepB w w' := by
  go_enter Tryd.func150, Tryd.ntmps150
  go_wp2_with fail
  refine (copyCheck_any B b bs w h).mono ?_
  rintro e w1 ⟨rfl, ⟨hB, v, hb, hown, hne⟩, hBl, hK⟩
  have hc1 : w1.cell? ⟨b, 1, none⟩ = some v := by rw [cell_of_heap hb]; rfl
  have HB := Lib.hid hb
  have hsz := hBl.size
  have hlt := heap_lt hb
  clear hb h
  go_wp2_with (at_builtin; refine wpList_appg rfl _ _ _ rfl Tryd.underlying123 infoU8 rfl (by omega) B w1 hown (by omega) rfl 1 #[.int .u8 c] rfl (laid_below _ _) (heap_alloc_new _ _) rfl (by simp [Value.oneCell']) (by omega) (by unfold maxLen; omega) (by omega) ?_; intro g cap w2 hown2 hg2; obtain ⟨hc2, hf2, HB2⟩ := bld_keep hg2 HB.out hne)
  go_ret
  refine ⟨rfl, .inr (Lib.BuilderAt.put hB HB2.out (by simpa using hown2) (by decide)), ?_, ?_⟩
  · exact (hBl.trans ((Below.refl B w1).grown hg2 (by omega) fun k hk => (hown.lt k hk).1)).setCell hB _
  · refine hK.trans ⟨hg2.os, hg2.tape, hg2.output, by simpa [World.setCell] using hg2.size, fun g' cs t fr hg' h1 h2 => ?_⟩
    have e1 := grown_keep hg2 hg' (own_ne_block hown hg' (fun e => h2 e.symm))
    exact heap_set_other e1 _ (heap_ne e1 HB2.out h1) _
end YtkiaclajjlidoaaDoor
end Go.Proofs
