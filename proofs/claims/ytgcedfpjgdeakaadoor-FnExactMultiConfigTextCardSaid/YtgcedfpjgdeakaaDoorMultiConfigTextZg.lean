/- The law FnExactMultiConfigText returns true for every input, and each argument reads afterwards as before: the proof, part 7. No conditions. -/
import Derived.Test.YtgcedfpjgdeakaaDoorMultiConfigTextZf
import Derived.Lib.ItoaNum
import Derived.Laws.CopyOwn
import Derived.Shelf.Strings.Builder1
import Derived.Test.YtgcedfpjgdeakaaDoorLamLay
import Derived.Lib.SmallJoins
import Derived.Lib.UnsafeStr
import Derived.Laws.BytesString
import Derived.Maps.AppendAt
import Derived.Test.YtgcedfpjgdeakaaDoorJoinLay
import Derived.Test.YtgcedfpjgdeakaaDoorRevLay
import Derived.Deep.RegionHeld3
import Derived.Deep.DeepCutAuto
/- Lambda terms as trees, their elements and their texts; a text whose numbers are single digits, read. Plain lemmas. -/
namespace Go.Proofs.YtgcedfpjgdeakaaDoor
open Go.RowKit
set_option linter.all false

inductive LTm where
  | v (n : Nat)
  | ab (t : LTm)
  | ap (s t : LTm)
def LTm.flat : LTm → List R2
  | .v n => [⟨0, (n : Int)⟩]
  | .ab t => ⟨1, 0⟩ :: t.flat
  | .ap s t => ⟨2, 0⟩ :: (s.flat ++ t.flat)
def LTm.text : LTm → List UInt8
  | .v n => [UInt8.ofNat (48 + n)]
  | .ab t => 94 :: t.text
  | .ap s t => 40 :: (s.text ++ 32 :: (t.text ++ [41]))
def LTm.small : LTm → Bool
  | .v n => decide (n < 10)
  | .ab t => t.small
  | .ap s t => s.small && t.small
theorem lOk_v0 {x : R2} (h : x.a = 0) : lOk x = inB x.b 0 399 := by unfold lOk; rw [h]; simp
def digB (b : UInt8) : Bool := decide (48 ≤ b.toNat) && decide (b.toNat ≤ 57)
/-- The elements of a text, each digit a number. -/
def rdT : List UInt8 → List R2
  | [] => []
  | b :: r => if b = 40 then ⟨2, 0⟩ :: rdT r else if b = 32 ∨ b = 41 then rdT r else if b = 94 then ⟨1, 0⟩ :: rdT r else ⟨0, (b.toNat : Int) - 48⟩ :: rdT r
/-- No other byte, and no digit behind a digit. -/
def okT : List UInt8 → Bool
  | [] => true
  | b :: r => (b == 40 || b == 32 || b == 41 || b == 94 || (digB b && !digB (r.headD 0))) && okT r
theorem rdT_app (r : List UInt8) : rdT (40 :: r) = ⟨2, 0⟩ :: rdT r := by rw [rdT, if_pos rfl]
theorem rdT_abs (r : List UInt8) : rdT (94 :: r) = ⟨1, 0⟩ :: rdT r := by
  rw [rdT, if_neg (by decide), if_neg (by decide), if_pos rfl]
theorem rdT_blank (r : List UInt8) : rdT (32 :: r) = rdT r := by rw [rdT, if_neg (by decide), if_pos (by decide)]
theorem rdT_close (r : List UInt8) : rdT (41 :: r) = rdT r := by rw [rdT, if_neg (by decide), if_pos (by decide)]
theorem dig_toNat {d : Nat} (h : d < 10) : (UInt8.ofNat (48 + d)).toNat = 48 + d := by rw [UInt8.toNat_ofNat']; omega
theorem rdT_dig {d : Nat} (h : d < 10) (r : List UInt8) : rdT (UInt8.ofNat (48 + d) :: r) = ⟨0, (d : Int)⟩ :: rdT r := by
  have h1 := dig_toNat h
  have ne : ∀ b : UInt8, b.toNat < 48 ∨ 57 < b.toNat → ¬ UInt8.ofNat (48 + d) = b := by
    intro b hb e
    rw [e] at h1; omega
  rw [rdT, if_neg (ne 40 (by decide)), if_neg (by intro e; rcases e with e | e; exact ne 32 (by decide) e; exact ne 41 (by decide) e), if_neg (ne 94 (by decide)), h1]
  congr 2
  omega
theorem okT_cases {b : UInt8} {r : List UInt8} (h : okT (b :: r) = true) : okT r = true ∧
    (b = 40 ∨ b = 32 ∨ b = 41 ∨ b = 94 ∨ ∃ d : Nat, d < 10 ∧ b = UInt8.ofNat (48 + d) ∧ digB (r.headD 0) = false) := by
  rw [okT, Bool.and_eq_true] at h
  refine ⟨h.2, ?_⟩
  have h1 := h.1
  simp only [Bool.or_eq_true, beq_iff_eq, Bool.and_eq_true, digB, decide_eq_true_eq, Bool.not_eq_true'] at h1
  rcases h1 with (((h1 | h1) | h1) | h1) | ⟨⟨h1, h2⟩, h3⟩
  · exact .inl h1
  · exact .inr (.inl h1)
  · exact .inr (.inr (.inl h1))
  · exact .inr (.inr (.inr (.inl h1)))
  · refine .inr (.inr (.inr (.inr ⟨b.toNat - 48, by omega, ?_, h3⟩)))
    apply UInt8.toNat_inj.1
    rw [dig_toNat (by omega)]; omega
theorem rdT_len (l : List UInt8) : (rdT l).length ≤ l.length := by
  induction l with
  | nil => exact Nat.le_refl _
  | cons b r ih =>
    rw [rdT]
    split
    · rw [List.length_cons, List.length_cons]; omega
    split
    · rw [List.length_cons]; omega
    split
    · rw [List.length_cons, List.length_cons]; omega
    · rw [List.length_cons, List.length_cons]; omega
theorem LTm.flat_pos (t : LTm) : 0 < t.flat.length := by cases t <;> simp [LTm.flat]
theorem LTm.text_len (t : LTm) : t.text.length ≤ 4 * t.flat.length ∧ t.flat.length ≤ t.text.length := by
  induction t with
  | v n => simp [LTm.text, LTm.flat]
  | ab t ih => simp only [LTm.text, LTm.flat, List.length_cons]; omega
  | ap s t ih1 ih2 => simp only [LTm.text, LTm.flat, List.length_cons, List.length_append, List.length_nil]; omega
/-- All indices are below 400. -/
def LTm.idx : LTm → Bool
  | .v n => decide (n < 400)
  | .ab t => t.idx
  | .ap s t => s.idx && t.idx
theorem LTm.small_idx : ∀ t : LTm, t.small = true → t.idx = true
  | .v n, h => by
    have h1 : n < 10 := by simpa [LTm.small] using h
    simp only [LTm.idx, decide_eq_true_eq]; omega
  | .ab t, h => by
    rw [LTm.idx]; exact LTm.small_idx t (by simpa [LTm.small] using h)
  | .ap s t, h => by
    have h1 : s.small = true ∧ t.small = true := by simpa [LTm.small] using h
    rw [LTm.idx, LTm.small_idx s h1.1, LTm.small_idx t h1.2]; rfl
theorem LTm.flat_fit : ∀ t : LTm, fit lFol 1 t.flat = true
  | .v n => by
    rw [LTm.flat, show (1 : Nat) = 0 + 1 from rfl, fit_sc, lFol_0 rfl]
    exact fit_00 lFol
  | .ab t => by
    rw [LTm.flat, show (1 : Nat) = 0 + 1 from rfl, fit_sc, lFol_1 rfl]
    exact LTm.flat_fit t
  | .ap s t => by
    rw [LTm.flat, show (1 : Nat) = 0 + 1 from rfl, fit_sc, lFol_2 rfl]
    exact fit_app lFol s.flat 1 1 t.flat (LTm.flat_fit s) (LTm.flat_fit t)
theorem LTm.flat_ok : ∀ t : LTm, t.idx = true → t.flat.all lOk = true
  | .v n, h => by
    have h1 : n < 400 := by simpa [LTm.idx] using h
    rw [LTm.flat, List.all_cons, lOk_v0 rfl, (inB_iff _ _ _).2 (by simp only; omega)]; rfl
  | .ab t, h => by
    rw [LTm.flat, List.all_cons, LTm.flat_ok t (by simpa [LTm.idx] using h)]; rfl
  | .ap s t, h => by
    have h1 : s.idx = true ∧ t.idx = true := by simpa [LTm.idx] using h
    rw [LTm.flat, List.all_cons, List.all_append, LTm.flat_ok s h1.1, LTm.flat_ok t h1.2]; rfl
theorem LTm.flat_validI (t : LTm) (h : t.idx = true) (hl : t.flat.length ≤ 400) : validT t.flat = true := by
  unfold validT
  rw [(inB_iff _ _ _).2 (by have := t.flat_pos; omega), t.flat_ok h, t.flat_fit]; rfl
theorem LTm.flat_valid (t : LTm) (h : t.small = true) (hl : t.flat.length ≤ 400) : validT t.flat = true := t.flat_validI (t.small_idx h) hl
/-- A text that is a valid term's. -/
structure TxOk (l : List UInt8) (t : LTm) : Prop where
  text : t.text = l
  ok : okT l = true
  rd : rdT l = t.flat
  small : t.small = true
  valid : validT t.flat = true
  len : l.length ≤ 60
end Go.Proofs.YtgcedfpjgdeakaaDoor

/- The builtin copy on rows of records; the row behind it is a variable's. Plain laws. -/
namespace Go.Proofs.YtgcedfpjgdeakaaDoor
open Go.RowKit
set_option linter.all false

section
variable {P : Program}
theorem run_copy_rows (w : World) (dT sT ty elem : TypeId) (g o dLen dCap : Nat) (a : Addr) (sLen sCap s m : Nat) (cur : Array Value) (t : TypeId) (cs : List Value)
    (hu : P.underlying dT = some (.slice elem)) (hs : (P.info? elem).map (·.size) = some s)
    (hg : w.heap[g]? = some (.cells cur t (0, 0))) (hm : Nat.min sLen dLen = m) (hn : cs.length = m * s)
    (hsrc : ∀ j v, cs[j]? = some v → w.cell? (a.add j) = some v) (hfit : o + cs.length ≤ cur.size) (h1 : ∀ v ∈ cs, v.oneCell' = true) :
    (Builtin.copy_ #[dT, sT] ty #[.slice (some ⟨g, o, none⟩) dLen dCap, .slice (some a) sLen sCap]).run P w =
      .ok (goInt m) (w.setRow g (cur.toList.take o ++ cs ++ cur.toList.drop (o + cs.length)).toArray) := by
  have hl := run_loadCells_list (P := P) w a cs hsrc
  have hst := run_storeCells_at P g o t cs 0 cur w hg (by simpa using hfit) h1
  cases hq : P.info? elem with
  | none => simp [hq] at hs
  | some i =>
    have hi : i.size = s := by simpa [hq] using hs
    simp [Builtin.copy_, run_underlying hu, Builtin.lenOf, Builtin.firstCells, sizeOf, typeInfo, hq, hi, hm, ← hn, hl, hst]
theorem wpList_copy_rows {w : World} {ops : Array Oper} {rest : List Oper} {o : Oper} {a : Act} {Q : Exit → Act → World → Prop} (hgd : o.guard = none) (d s : Operand) (dT sT : TypeId)
    (ho : o.op = .call { callee := .builtin .copy, args := #[d, s], argTypes := #[dT, sT] }) (elem : TypeId) (hu : P.underlying dT = some (.slice elem)) {z : Nat} (hsz : (P.info? elem).map (·.size) = some z)
    (g off dLen dCap : Nat) (ad : Addr) (sLen sCap : Nat) (hd : a.eval d = .slice (some ⟨g, off, none⟩) dLen dCap) (hs : a.eval s = .slice (some ad) sLen sCap)
    (cur : List Value) (t : TypeId) (hg : w.heap[g]? = some (.cells cur.toArray t (0, 0))) (m : Nat) (hm : Nat.min sLen dLen = m) (cs : List Value) (hn : cs.length = m * z)
    (hsrc : ∀ j v, cs[j]? = some v → w.cell? (ad.add j) = some v) (hfit : off + cs.length ≤ cur.length) (h1 : ∀ v ∈ cs, v.oneCell' = true) (B : Nat) (w0 : World) (hb : Below B w0 w) (hBg : B ≤ g)
    (h : ∀ w', Hid (w'.heap[g]? = some (.cells (cur.take off ++ cs ++ cur.drop (off + cs.length)).toArray t (0, 0))) → Below B w0 w' → wpList P ops Q rest (a.put o.dst (goInt m)) w') : wpList P ops Q (o :: rest) a w := by
  refine wpList_plain hgd fun K hK => ?_
  have hrun := run_copy_rows (P := P) w dT sT o.type elem g off dLen dCap ad sLen sCap z m cur.toArray t cs hu hsz hg hm hn hsrc (by simpa using hfit) h1
  unfold Oper.wp
  simp [execOp, ho, resolve, invoke, builtin, hd, hs, hrun, Result.andThen]
  refine hK _ _ (h _ ?_ (below_setRow hb hBg _))
  have := setRow_heap w g _ (cur.take off ++ (cs ++ cur.drop (off + cs.length))).toArray t _ hg
  simpa [Hid] using this
theorem step_copy_rows {w : World} {ops : Array Oper} {o : Oper} {a : Act} {K : Act → World → Prop} {Q : Exit → Act → World → Prop} {E : Prop} (hgd : o.guard = none) (d s : Operand) (dT sT : TypeId)
    (ho : o.op = .call { callee := .builtin .copy, args := #[d, s], argTypes := #[dT, sT] }) (elem : TypeId) (hu : P.underlying dT = some (.slice elem)) {z : Nat} (hsz : (P.info? elem).map (·.size) = some z)
    (g off dLen dCap : Nat) (ad : Addr) (sLen sCap : Nat) (hd : a.eval d = .slice (some ⟨g, off, none⟩) dLen dCap) (hs : a.eval s = .slice (some ad) sLen sCap)
    (cur : List Value) (t : TypeId) (hg : w.heap[g]? = some (.cells cur.toArray t (0, 0))) (m : Nat) (hm : Nat.min sLen dLen = m) (cs : List Value) (hn : cs.length = m * z)
    (hsrc : ∀ j v, cs[j]? = some v → w.cell? (ad.add j) = some v) (hfit : off + cs.length ≤ cur.length) (h1 : ∀ v ∈ cs, v.oneCell' = true) (B : Nat) (w0 : World) (hb : Below B w0 w) (hBg : B ≤ g)
    (h : ∀ w', Hid (w'.heap[g]? = some (.cells (cur.take off ++ cs ++ cur.drop (off + cs.length)).toArray t (0, 0))) → Below B w0 w' → K (a.put o.dst (goInt m)) w') :
    if Region.wanted o (yielded ops a.tmps) = true then Oper.wp P o a w K Q else E := by
  have hw : Region.wanted o (yielded ops a.tmps) = true := by simp [Region.wanted, hgd]
  rw [if_pos hw]
  have hrun := run_copy_rows (P := P) w dT sT o.type elem g off dLen dCap ad sLen sCap z m cur.toArray t cs hu hsz hg hm hn hsrc (by simpa using hfit) h1
  unfold Oper.wp
  simp [execOp, ho, resolve, invoke, builtin, hd, hs, hrun, Result.andThen]
  refine h _ ?_ (below_setRow hb hBg _)
  have := setRow_heap w g _ (cur.take off ++ (cs ++ cur.drop (off + cs.length))).toArray t _ hg
  simpa [Hid] using this
end
/-- 'x[l:]': one address, whether room is left or not. -/
theorem run_slice_tailR {P : Program} (t e : TypeId) {z : Value} {s bytes : Nat} (ht : P.underlying t = some (.slice e)) (hinfo : (P.info? e).map (fun i => (i.zero, i.size, i.bytes)) = some (some z, s, bytes))
    (b off n c l : Nat) (i : Int) (hi : i = l) (hh : l ≤ n) (hc : n ≤ c) :
    ∃ o', (n - l = 0 ∨ o' = off + l * s) ∧ ∀ W, (Instr.slice t (.slice (some ⟨b, off, none⟩) n c) (some (.int .i64 i)) none none).run P W = .ok (.slice (some ⟨b, o', none⟩) (n - l) (c - l)) W := by
  obtain ⟨ti, hti, hz, hsize, hb⟩ := info_parts hinfo
  have he : P.elem t = e := by simp [Program.elem, ht]
  refine ⟨if c = l then off else off + l * s, ?_, fun W => ?_⟩
  · by_cases h0 : c = l
    · exact .inl (by omega)
    · exact .inr (by rw [if_neg h0])
  · rw [run_slice_l W t (some ⟨b, off, none⟩) n c (by rw [he]; exact ht) .i64 i (by omega) (by omega)]
    subst hi
    have hsz : ∀ W, (sizeOf (P.elem t)).run P W = .ok s W := by intro W; rw [he]; simp [sizeOf, typeInfo, hti, hsize]
    rw [hsz]
    simp only [Result.andThen, sliced, Int.toNat_natCast]
    by_cases h0 : c = l
    · simp [h0]
    · simp only [if_neg h0, Option.map_some]
      rw [addr_add]

/-- A row known by its block is owned. -/
theorem own_of_block {w : World} {base g n cap : Nat} {t : TypeId} {s : Nat} {xs : List Value} (h : w.heap[g]? = some (.cells xs.toArray t (0, 0))) (hb : base ≤ g) (hs : xs.length = cap * s) (hn : n ≤ cap) (hm : cap ≤ maxLen) : w.ownsRow base t s (.slice (some ⟨g, 0, none⟩) n cap) n (xs.take (n * s)) := by
  refine ⟨?_, .inr ⟨g, cap, xs.toArray, rfl, hb, h, hn, hm, by simpa using hs, by simp⟩⟩
  rw [List.length_take, hs]
  have : n * s ≤ cap * s := Nat.mul_le_mul_right _ hn
  omega
theorem made_zero2 (m : Nat) : madeCells (Value.cells (.agg #[.int .i64 0, .int .i64 0])) (m * 2) = (rows R2.vs (List.replicate m (⟨0, 0⟩ : R2))).toArray := by
  apply Array.ext
  · rw [size_madeCells]; simp [rows_len R2.vs_len]
  · intro i h1 h2
    have hi : i < m * 2 := by rw [size_madeCells] at h1; exact h1
    have e1 : (madeCells (Value.cells (.agg #[.int .i64 0, .int .i64 0])) (m * 2))[i] = .int .i64 0 := by
      have hm : i % 2 = 0 ∨ i % 2 = 1 := by omega
      rcases hm with hm | hm <;> simp [madeCells, Value.cells, hm]
    have e2 : (rows R2.vs (List.replicate m (⟨0, 0⟩ : R2)))[i]? = some (.int .i64 0) := by
      have hq : i / 2 < m := by omega
      have hx : (List.replicate m (⟨0, 0⟩ : R2))[i / 2]? = some ⟨0, 0⟩ := by simp [hq]
      have hr := rows_at R2.vs_len hx (j := i % 2) (by omega)
      rw [show i / 2 * 2 + i % 2 = i by omega] at hr
      rw [hr]
      have hm : i % 2 = 0 ∨ i % 2 = 1 := by omega
      rcases hm with hm | hm <;> simp [R2.vs, hm]
    rw [e1]
    simp only [List.getElem_toArray]
    have := List.getElem?_eq_some_iff.1 e2
    exact this.2.symm
end Go.Proofs.YtgcedfpjgdeakaaDoor

/- strings.Builder: one that the call itself has made, written byte by byte and read once. -/
namespace Go.Proofs
open Go.Shelf
def Tryd.lays169_ren : Go.Shelf.Ren := ⟨fun | 169 => 64 | n => n, fun | 70 => 104 | 9 => 9 | 0 => 0 | 72 => 107 | 37 => 105 | 127 => 138 | 3 => 3 | 5 => 5 | n => n, fun | n => n⟩
theorem Tryd.lays169 : Go.Proofs.Lays.n169 Tryd.prog Tryd.lays169_ren := {
  mixed := by kernel_rfl
  f169 := Tryd.func64.trans (congrArg some (by kernel_rfl))
  t0 := Tryd.underlying0
  a0 := Tryd.isAgg0
  z0 := Tryd.sizeOf0
  v0 := Tryd.zeroValue0
  t3 := Tryd.underlying3
  a3 := Tryd.isAgg3
  z3 := Tryd.sizeOf3
  v3 := Tryd.zeroValue3
  t9 := Tryd.underlying9
  a9 := Tryd.isAgg9
  z9 := Tryd.sizeOf9
  v9 := Tryd.zeroValue9
  t37 := Tryd.underlying105
  a37 := Tryd.isAgg105
  z37 := Tryd.sizeOf105
  v37 := Tryd.zeroValue105
  t70 := Tryd.underlying104
  a70 := Tryd.isAgg104
  z70 := Tryd.sizeOf104
  v70 := Tryd.zeroValue104
  t72 := Tryd.underlying107
  a72 := Tryd.isAgg107
  z72 := Tryd.sizeOf107
  v72 := Tryd.zeroValue107
  t127 := Tryd.underlying138
  a127 := Tryd.isAgg138
  z127 := Tryd.sizeOf138
  v127 := Tryd.zeroValue138 }
theorem Tryd.Builder_Extra_169 : Builder.Extra Tryd.prog Tryd.lays169_ren := {
  sizeBuilder := by kernel_rfl
  liesBuilder := by kernel_rfl
  t5 := Tryd.underlying5
  a5 := Tryd.isAgg5
  z5 := Tryd.sizeOf5
  v5 := Tryd.zeroValue5
  infoByte := by kernel_rfl
  cellsByte := by kernel_rfl
  sizeByte := by kernel_rfl
  neB5 := by decide }
open Go.RowKit in
theorem Tryd.Builder_String_any (B b : Nat) (l : List UInt8) (w : World) (h : Lib.IsBuilder 107 5 B b (Lib.byteCells l) w) (hBw : B ≤ w.heap.size) :
    Calls Tryd.prog 64 #[.pointer (some ⟨b, 0, none⟩)] w fun e w' => e = .returned (.string ⟨l.toArray⟩) ∧ Below B w w' := Any.Builder_String_any Tryd.lays169 Tryd.Builder_Extra_169 B b l w h hBw
namespace YtgcedfpjgdeakaaDoor
open Go.RowKit
set_option linter.all false

/-- Of the blocks that were there, only such of a builder's and of bytes may have turned. -/
structure KeepB (w w' : World) : Prop where
  os : w'.os = w.os
  tape : w'.tape = w.tape
  output : w'.output = w.output
  size : w.heap.size ≤ w'.heap.size
  block : ∀ (g : Nat) (cs : Array Value) (t : TypeId) (fr : Nat × Nat), w.heap[g]? = some (.cells cs t fr) → t ≠ 107 → t ≠ 5 → w'.heap[g]? = some (.cells cs t fr)
theorem KeepB.refl (w : World) : KeepB w w := ⟨rfl, rfl, rfl, Nat.le_refl _, fun _ _ _ _ h _ _ => h⟩
theorem KeepB.trans {a b c : World} (h : KeepB a b) (k : KeepB b c) : KeepB a c :=
  ⟨k.os.trans h.os, k.tape.trans h.tape, k.output.trans h.output, Nat.le_trans h.size k.size, fun g cs t fr hg h1 h2 => k.block g cs t fr (h.block g cs t fr hg h1 h2) h1 h2⟩
theorem KeepB.drew {a b : World} (h : KeepB a b) : KeepB a b.drew := ⟨h.os, h.tape, h.output, h.size, h.block⟩

theorem infoU8 : (Tryd.prog.info? 5).map (fun i => (i.zero, i.size, i.bytes)) = some (some (.int .u8 0), 1, 1) := by kernel_rfl

theorem sizeBld : (Tryd.prog.info? 107).map (·.size) = some 2 := by kernel_rfl
theorem liesBld : liesAt Tryd.prog Tryd.prog.depth 107 (2 / Tryd.prog.cellsOf 107) 0 107 1 = true := by kernel_rfl
set_option maxRecDepth 100000 in
theorem copyCheck_any (B b : Nat) (bs : List Value) (w : World) (h : Lib.IsBuilder 107 5 B b bs w) :
    Calls Tryd.prog 87 #[.pointer (some ⟨b, 0, none⟩)] w fun e w' => e = .returned (.tuple #[]) ∧ Lib.BuilderAt 107 5 B b (.pointer (some ⟨b, 0, none⟩)) bs w' ∧ Below B w w' ∧ KeepB w w' := by
  rcases h with h | h
  · have hB := h.1
    have hc := h.cell0
    have hf := h.frozen0
    have hsh := h.shape
    have HU := Lib.hid (h.used (.pointer (some ⟨b, 0, none⟩)))
    have HK : Hid (KeepB w (w.setCell ⟨b, 0, none⟩ (.pointer (some ⟨b, 0, none⟩)))) := by
      obtain ⟨_, v, hb, _⟩ := h
      refine ⟨rfl, rfl, rfl, by simp [World.setCell], fun g cs t fr hg h1 h2 => heap_set_other hg _ (fun e => ?_) _⟩
      have e' : g = b := e
      subst e'
      rw [hb] at hg
      injection hg with hg
      injection hg with _ ht
      exact h1 ht.symm
    clear h
    go_enter Tryd.func87, Tryd.ntmps87
    obtain ⟨j, hj, hjs⟩ := Option.map_eq_some_iff.1 sizeBld
    have HJ := Lib.hid hj
    clear hj
    go_wp2_with fail
    rw [Lib.run_to_unsafe w ⟨b, 0, none⟩ Tryd.underlying104 Tryd.underlying148 HJ.out (by rw [hjs]; decide) hsh (Nat.zero_lt_succ 1)]
    simp only [Result.andThen]
    rw [Oper.upon_value]
    go_wp2_with fail
    rw [run_callFunc_extern Tryd.func106 (by kernel_rfl) (by kernel_rfl) (by kernel_rfl) (e := Extern.AbiNoEscape.same) (by kernel_rfl)]
    rw [Lib.run_noEscape]
    simp only [Result.andThen]
    rw [Oper.upon_value]
    go_wp2_with fail
    rw [Lib.run_from_unsafe w ⟨b, 0, none⟩ Tryd.underlying148 Tryd.underlying104 HJ.out hsh liesBld]
    simp only [Result.andThen]
    rw [Oper.upon_value]
    go_wp2_with fail
    go_end0
    exact ⟨rfl, HU.out, (Below.refl B w).setCell (p := ⟨b, 0, none⟩) hB _, HK.out⟩
  · have hc := h.cell0
    have H := Lib.hid h
    clear h
    obtain ⟨j, hj, _⟩ := Option.map_eq_some_iff.1 sizeBld
    have HJ := Lib.hid hj
    clear hj
    go_enter Tryd.func87, Tryd.ntmps87
    go_wp2_with fail
    rw [Lib.run_neq_ptr_same w _ Tryd.underlying104 HJ.out]
    go_wp2_with fail
    go_end0
    exact ⟨rfl, H.out, Below.refl B _, KeepB.refl _⟩

theorem bld_keep {w1 w2 : World} {b : Nat} {p v : Value} {t : TypeId} (hg2 : w1.grownBy w2 v.ownBlock) (hb : w1.heap[b]? = some (.cells #[p, v] t (0, 0))) (hne : v.ownBlock ≠ some b) :
    w2.cell? ⟨b, 1, none⟩ = some v ∧ w2.frozen? ⟨b, 1, none⟩ = false ∧ Hid (w2.heap[b]? = some (.cells #[p, v] t (0, 0))) := by
  have hb2 := grown_keep hg2 hb (fun e => hne e.symm)
  exact ⟨by rw [cell_of_heap hb2]; rfl, frozen_of_heap hb2, hb2⟩
end YtgcedfpjgdeakaaDoor
end Go.Proofs

/- Numbers of one digit at this seat, read and written by the library's functions; digits and ReadDecimal of the program. -/
namespace Go.Proofs.YtgcedfpjgdeakaaDoor
open Go.RowKit
set_option linter.all false

theorem trimLeft_any (s : ByteArray) (w : World) :
    Calls Tryd.prog 96 #[.string s, .string ⟨#[48, 49, 50, 51, 52, 53, 54, 55, 56, 57]⟩] w fun e w' => e = .returned (.string ⟨(Lib.trimLeftS s.data.toList [48, 49, 50, 51, 52, 53, 54, 55, 56, 57]).toArray⟩) ∧ Below w.heap.size w w' :=
  Any.strings_TrimLeft_laid Tryd.layTrimLeft (by kernel_rfl) s ⟨#[48, 49, 50, 51, 52, 53, 54, 55, 56, 57]⟩ w (by decide) (ascii_of_all (by decide))

theorem cut_contains (b : UInt8) : ([48, 49, 50, 51, 52, 53, 54, 55, 56, 57] : List UInt8).contains b = digB b := by
  rw [Bool.eq_iff_iff]
  simp only [List.contains_cons, List.contains_nil, Bool.or_false, Bool.or_eq_true, beq_iff_eq, digB, Bool.and_eq_true, decide_eq_true_eq, ← UInt8.toNat_inj]
  simp
  omega

theorem dig_is {d : Nat} (h : d < 10) : digB (UInt8.ofNat (48 + d)) = true := by
  unfold digB
  rw [dig_toNat h]
  simp; omega
/-- A text that begins with just one digit. -/
theorem trim_one {d : Nat} (h : d < 10) {r : List UInt8} (hr : digB (r.headD 0) = false) : Lib.trimLeftS (UInt8.ofNat (48 + d) :: r) [48, 49, 50, 51, 52, 53, 54, 55, 56, 57] = r := by
  unfold Lib.trimLeftS
  rw [List.dropWhile_cons, if_pos (by rw [cut_contains]; exact dig_is h)]
  cases r with
  | nil => rfl
  | cons c r => rw [List.dropWhile_cons, if_neg]; rw [cut_contains]; simpa using hr

theorem formatSmallB (i : Nat) (hi : i < 100) (w : World) :
    Calls Tryd.prog 77 #[.int .i64 i, .int .i64 10] w fun e w' => e = .returned (.string ⟨(Lib.decDigits i).toArray⟩) ∧ w' = w := Any.strconv_FormatInt_10_small Tryd.layFormatB i hi w

theorem decimalDig (d : Nat) (hd : d < 10) (w : World) :
    Calls Tryd.prog 42 #[.int .i64 d] w fun e w' => e = .returned (.string ⟨[UInt8.ofNat (48 + d)].toArray⟩) ∧ w = w' := by
  have HD := Lib.hid (Lib.decDigits_one hd)
  go_enter Tryd.func42, Tryd.ntmps42
  go_wp2_with (go_at_call 77; refine (formatSmallB d (by omega) _).mono ?_; rintro e w' ⟨rfl, rfl⟩)
  go_ret
  exact ⟨by first | rfl | (rw [HD.out]; rfl), rfl⟩

theorem parse_dig : ∀ d : Fin 10, Lib.parseIntB 64 [UInt8.ofNat (48 + d.val)] = .ok (d.val : Int) := by decide

theorem trimP_dig : ∀ d : Fin 10, Lib.trimPrefix [UInt8.ofNat (48 + d.val)] [45] = [UInt8.ofNat (48 + d.val)] := by decide

theorem parseDig (s : ByteArray) (d : Nat) (hd : d < 10) (hs : s.data.toList = [UInt8.ofNat (48 + d)]) (w : World) :
    Calls Tryd.prog 71 #[.string s, .int .i64 10, .int .i64 64] w fun e w' => e = .returned (.tuple #[.int .i64 d, .nilIface]) ∧ Below w.heap.size w w' := by
  have hsz : s.size = 1 := by have := congrArg List.length hs; simpa using this
  refine (Any.strconv_ParseInt_10_at64_ok Tryd.layParseInt s (by omega) (d : Int) (by rw [hs]; exact parse_dig ⟨d, hd⟩) w).mono ?_
  rintro e w' ⟨rfl, h⟩
  refine ⟨rfl, ?_⟩
  rcases h with rfl | ⟨t, rfl⟩
  · exact Below.refl _ _
  · exact Go.Joins.below_bytesWorld _ _ _ _ (Nat.le_refl _)

theorem trimPrefixAny (s p : ByteArray) (w : World) :
    Calls Tryd.prog 74 #[.string s, .string p] w fun e w' => e = .returned (.string ⟨(Lib.trimPrefix s.data.toList p.data.toList).toArray⟩) ∧ w = w' :=
  (Any.strings_TrimPrefix Tryd.layTrimPrefix s p w).mono fun _ _ h => ⟨h.1, h.2.symm⟩

theorem strCells_list (l : List UInt8) : Lib.strCells ⟨l.toArray⟩ = Lib.byteCells l := by simp [Lib.strCells, Lib.byteCells]
theorem byteCellsL_app (a b : List UInt8) : Lib.byteCells (a ++ b) = Lib.byteCells a ++ Lib.byteCells b := by simp [Lib.byteCells]
theorem byteCellsL_len (a : List UInt8) : (Lib.byteCells a).length = a.length := by simp [Lib.byteCells]
end Go.Proofs.YtgcedfpjgdeakaaDoor

/- The builder of strings, with whatever piece of text: WriteString, WriteByte, String. -/
namespace Go.Proofs.YtgcedfpjgdeakaaDoor
open Go.RowKit
set_option linter.all false

set_option maxRecDepth 100000 in
theorem writeStringAny (B b : Nat) (bs : List Value) (s : ByteArray) (w : World) (h : Lib.IsBuilder 107 5 B b bs w) (hlen : bs.length + s.size ≤ 8388608) (hBw : B ≤ w.heap.size) :
    Calls Tryd.prog 61 #[.pointer (some ⟨b, 0, none⟩), .string s] w fun e w' => e = .returned (.tuple #[.int .i64 s.size, .nilIface]) ∧ Lib.IsBuilder 107 5 B b (bs ++ Lib.strCells s) w' ∧ Below B w w' := by
  obtain ⟨i0, hi, hz0, hz1, hz2⟩ := info_parts infoU8
  go_enter Tryd.func61, Tryd.ntmps61
  go_wp2_with fail
  refine (copyCheck_any B b bs w h).mono ?_
  rintro e w1 ⟨rfl, ⟨hB, v, hb, hown, hne⟩, hBl, hK⟩
  have hc1 : w1.cell? ⟨b, 1, none⟩ = some v := by rw [cell_of_heap hb]; rfl
  have HB := Lib.hid hb
  have hsz := hBl.size
  clear hb h
  go_wp2_with (at_builtin; refine Lib.wpList_append_own_string _ rfl _ _ 105 9 rfl B 5 i0 Tryd.underlying105 Tryd.underlying9 hi hz0 hz1 hz2 _ _ _ rfl hown s rfl (by unfold maxLen; omega) (by omega) (by omega) ?_; intro v2 w2 hown2 hg2 hx2; obtain ⟨hc2, hf2, HB2⟩ := bld_keep hg2 HB.out hne; obtain ⟨A2, c2, rfl⟩ := own_form hown2)
  go_ret2
  refine ⟨rfl, .inr (Lib.BuilderAt.put hB HB2.out (by simpa [Lib.strCells_length] using hown2) (by decide)), ?_⟩
  exact (hBl.trans ((Below.refl B w1).grown hg2 (by omega) fun k hk => (hown.lt k hk).1)).setCell hB _

theorem builderString (B b : Nat) (l : List UInt8) (w : World) (h : Lib.IsBuilder 107 5 B b (Lib.byteCells l) w) (hBw : B ≤ w.heap.size) :
    Calls Tryd.prog 64 #[.pointer (some ⟨b, 0, none⟩)] w fun e w' => e = .returned (.string ⟨l.toArray⟩) ∧ Below B w w' := Tryd.Builder_String_any B b l w h hBw

end Go.Proofs.YtgcedfpjgdeakaaDoor

/- Contracts of the laws' helpers on []string: copy, compare, mark, look at the marks. For slices of at most 1048576 elements. -/
namespace Go.Proofs.YtgcedfpjgdeakaaDoor
open Go.RowKit

theorem infoStringS : (Tryd.prog.info? 9).map (fun i => (i.zero, i.size, i.bytes)) = some (some (Value.string ⟨#[]⟩), 1, 16) := by kernel_rfl

theorem ba_ext {x y : ByteArray} (h : x.toList = y.toList) : x = y := by
  rw [ByteArray.toList_eq, ByteArray.toList_eq] at h
  cases x; cases y
  simp at h
  rw [h]

/-- The size of a list of strings, as the laws reckon it. -/
def szStr (xs : List ByteArray) : Nat := xs.length + (xs.map ByteArray.size).sum
theorem szStr_len (xs : List ByteArray) : xs.length ≤ szStr xs := by unfold szStr; omega
theorem szStr_mem {xs : List ByteArray} {x : ByteArray} (h : x ∈ xs) : x.size ≤ szStr xs := by
  unfold szStr
  induction xs with
  | nil => cases h
  | cons y ys ih =>
    rw [List.map_cons, List.sum_cons, List.length_cons]
    rcases List.mem_cons.1 h with rfl | h
    · omega
    · have := ih h; omega
/-- The length and the first 'k' strings. -/
def szTo (xs : List ByteArray) (k : Nat) : Nat := xs.length + ((xs.take k).map ByteArray.size).sum
theorem szTo_succ {xs : List ByteArray} {k : Nat} {x : ByteArray} (h : xs[k]? = some x) : szTo xs (k + 1) = szTo xs k + x.size := by
  unfold szTo; rw [List.take_add_one, h]; simp; omega
theorem szTo_le (xs : List ByteArray) (k : Nat) : szTo xs k ≤ szStr xs := by
  unfold szTo szStr
  have h : xs.map ByteArray.size = (xs.take k).map ByteArray.size ++ (xs.drop k).map ByteArray.size := by rw [← List.map_append, List.take_append_drop]
  rw [h, List.sum_append]; omega
theorem szTo_all {xs : List ByteArray} {k : Nat} (h : xs.length ≤ k) : szTo xs k = szStr xs := by unfold szTo szStr; rw [List.take_of_length_le h]
end Go.Proofs.YtgcedfpjgdeakaaDoor

/- The laws' markText and markStringS: that they end, and what they write over. -/
namespace Go.Proofs.YtgcedfpjgdeakaaDoor
open Go.RowKit
set_option linter.all false

theorem fold_push2 (l : List UInt8) : ∀ s : ByteArray, (l.map fun b : UInt8 => (b.toNat : Int)).foldl (fun r n => r.push (UInt8.ofNat n.toNat)) s = ⟨(s.data.toList ++ l).toArray⟩ := by
  induction l with
  | nil => intro s; simp
  | cons b l ih =>
    intro s
    rw [List.map_cons, List.foldl_cons, ih]
    congr 1
    simp [ByteArray.push]
theorem run_str2 {w : World} {base : Nat} {v : Value} {l : List UInt8} (h : w.ownsRow base 5 1 v l.length (Lib.byteCells l)) : (convert 105 9 v).run Tryd.prog w = .ok (.string ⟨l.toArray⟩) w := by
  rcases h.2 with ⟨rfl, h0⟩ | ⟨g, cap, cur, rfl, _⟩
  · rw [run_convert_bytes_string w _ _ 5 _ _ _ Tryd.underlying105 Tryd.underlying5 Tryd.underlying9]
    have : l = [] := List.eq_nil_of_length_eq_zero h0
    subst this
    rfl
  · rw [run_convert_bytes_string w _ _ 5 _ _ _ Tryd.underlying105 Tryd.underlying5 Tryd.underlying9]
    have hf := run_firstCells_some (P := Tryd.prog) w 1 l.length ⟨g, 0, none⟩ l.length cap (Lib.byteCells l) (by simp [Lib.byteCells]) (h.cells (g := g) rfl)
    have e : Lib.byteCells l = (l.map fun b : UInt8 => (b.toNat : Int)).map (Value.int .u8) := by simp [Lib.byteCells]
    rw [e] at hf
    have hl : (loadCells ⟨g, 0, none⟩ l.length).run Tryd.prog w = .ok ((l.map fun b : UInt8 => (b.toNat : Int)).map (Value.int .u8)).toArray w := by simpa [Builtin.firstCells] using hf
    rw [run_bytesToString w _ _ _ _ hl, fold_push2]
    simp

/-- One digit, as a string. -/
theorem digit_str (wr : World) (k : Nat) : ∃ s1 : ByteArray, s1.size = 1 ∧ (convert 105 9 (.slice (some ⟨wr.heap.size, 0, none⟩) 1 1)).run Tryd.prog (wr.alloc (.cells #[.int .u8 (48 + (k : Int) % 10)] 5)) = .ok (.string s1) (wr.alloc (.cells #[.int .u8 (48 + (k : Int) % 10)] 5)) := by
  have e : (48 + (k : Int) % 10) = (((UInt8.ofNat (48 + k % 10)).toNat : Nat) : Int) := by
    rw [UInt8.toNat_ofNat', Nat.mod_eq_of_lt (by omega)]; omega
  have hO : (wr.alloc (.cells #[.int .u8 (48 + (k : Int) % 10)] 5)).ownsRow wr.heap.size 5 1 (.slice (some ⟨wr.heap.size, 0, none⟩) 1 1) [UInt8.ofNat (48 + k % 10)].length (Lib.byteCells [UInt8.ofNat (48 + k % 10)]) :=
    ⟨rfl, .inr ⟨wr.heap.size, 1, #[.int .u8 (48 + (k : Int) % 10)], rfl, Nat.le_refl _, heap_alloc_new _ _, Nat.le_refl _, by simp [maxLen], rfl, by show [Value.int .u8 (48 + (k : Int) % 10)] = [Value.int .u8 (((UInt8.ofNat (48 + k % 10)).toNat : Nat) : Int)]; rw [e]⟩⟩
  exact ⟨_, rfl, run_str2 hO⟩
end Go.Proofs.YtgcedfpjgdeakaaDoor

/- 'append' of a whole slice onto a row of the call's own, with where the new row lies; rows that keep off it. Plain laws. -/
namespace Go.Proofs.YtgcedfpjgdeakaaDoor
open Go.RowKit
set_option linter.all false

theorem wpList_appy {P : Program} {w : World} {ops : Array Oper} {rest : List Oper} {o : Oper} {a : Act} {Q : Exit → Act → World → Prop} (hgd : o.guard = none) (s x : Operand) (t : TypeId)
    (ho : o.op = .call { callee := .builtin .append, args := #[s, x], argTypes := #[t, t] })
    {e : TypeId} {z : Value} {size bytes : Nat} (ht : P.underlying t = some (.slice e)) (hinfo : (P.info? e).map (fun i => (i.zero, i.size, i.bytes)) = some (some z, size, bytes)) (hzs : z.cells.size = size) (hsz : 0 < size)
    (base : Nat) {v : Value} {n : Nat} {xs : List Value} (hown : w.ownsRow base e size v n xs) (hbase : base ≤ w.heap.size) (hs : a.eval s = v)
    {u : Value} {m : Nat} {ys : List Value} (hsrc : Src size w u m ys) (hx : a.eval x = u) (h1 : ∀ u ∈ ys, u.oneCell' = true) (h63 : n + m ≤ maxLen) (hbytes : (n + m) * bytes ≤ 140737488355328)
    (h : ∀ v' w', w'.ownsRow base e size v' (n + m) (xs ++ ys) → w.grownBy w' v.ownBlock → (v'.ownBlock = v.ownBlock ∨ v'.ownBlock = some w.heap.size) → wpList P ops Q rest (a.put o.dst v') w') : wpList P ops Q (o :: rest) a w := by
  obtain ⟨i, hi, hz, hsize, hby⟩ := info_parts hinfo
  rcases hsrc.2 with ⟨rfl, rfl⟩ | ⟨b, off, c, rfl, hsl⟩
  · have hys : ys = [] := List.eq_nil_of_length_eq_zero (by simpa using hsrc.1)
    subst hys
    have hr := run_append_nothing (P := P) (w := w) base t o.type e i size ht hi v n xs hown 0
    refine wpList_plain hgd fun K hK => ?_
    unfold Oper.wp execOp
    simp only [ho, resolve, invoke, builtin, Sem.run_bind, Sem.run_pure, Result.andThen_ok, List.map_toArray, List.map_cons, List.map_nil, hs, hx, hr]
    exact hK _ _ (h v w (by simpa using hown) (World.grownBy.refl _ _) (.inl rfl))
  · refine wpList_append_own_at w hgd s x t ho base e i z size bytes ht hi hz hsize hby hzs hsz v n xs hs hown ⟨b, off, none⟩ m c ys hx hsrc.1 (fun j u hu => by rw [addr_add]; exact hsl.2 j u hu) h1 h63 hbytes hbase ?_
    intro v' w' h2 h3 _ h5
    exact h v' w' h2 h3 h5
/-- A row whose block lies below lo, or from hi on. -/
def OutB (lo hi : Nat) (v : Value) : Prop := ∀ k, v.ownBlock = some k → k < lo ∨ hi ≤ k
theorem OutB.low {w : World} {base lo hi : Nat} {e : TypeId} {size n : Nat} {v : Value} {xs : List Value} (h : w.ownsRow base e size v n xs) (hl : w.heap.size ≤ lo) : OutB lo hi v := fun k hk => .inl (Nat.lt_of_lt_of_le (h.lt k hk).2 hl)
theorem OutB.step {w : World} {lo hi : Nat} {v v' : Value} (h : OutB lo hi v) (hh : hi ≤ w.heap.size) (hl : v'.ownBlock = v.ownBlock ∨ v'.ownBlock = some w.heap.size) : OutB lo hi v' := by
  intro k hk
  rcases hl with hl | hl
  · exact h k (by rw [← hl]; exact hk)
  · rw [hl] at hk; injection hk with hk; exact .inr (hk ▸ hh)
theorem OutB.apart {w : World} {lo hi : Nat} {e : TypeId} {size n : Nat} {u v : Value} {xs : List Value} (h : OutB lo hi v) (own : w.ownsRow lo e size u n xs) (top : ∀ k, u.ownBlock = some k → k < hi) : u.ownBlock = none ∨ u.ownBlock ≠ v.ownBlock := by
  cases hu : u.ownBlock with
  | none => exact .inl rfl
  | some k =>
    refine .inr fun e2 => ?_
    have h1 := (own.lt k hu).1
    have h2 := top k hu
    rcases h k e2.symm with h3 | h3 <;> omega
end Go.Proofs.YtgcedfpjgdeakaaDoor

/- Numbers in decimal: the program's, for small numbers, and the reference's. -/
namespace Go.Proofs.YtgcedfpjgdeakaaDoor
open Go.RowKit
set_option linter.all false

theorem formatSmall (i : Nat) (hi : i < 100) (w : World) :
    Calls Tryd.prog 77 #[.int .i64 i, .int .i64 10] w fun e w' => e = .returned (.string ⟨(Lib.decDigits i).toArray⟩) ∧ w' = w := Any.strconv_FormatInt_10_small Tryd.layFormat i hi w
theorem decimal_small (i : Nat) (hi : i < 100) (w : World) :
    Calls Tryd.prog 42 #[.int .i64 i] w fun e w' => e = .returned (.string ⟨(Lib.decDigits i).toArray⟩) ∧ w = w' := by
  go_enter Tryd.func42, Tryd.ntmps42
  go_wp2_with (go_at_call 77; refine (formatSmall i hi _).mono ?_; rintro e w' ⟨rfl, rfl⟩)
  go_ret
  exact ⟨rfl, rfl⟩

theorem strings_Join_any (bk o n c : Nat) (xs : List ByteArray) (sep : ByteArray) (w : World) (hn : xs.length = n)
    (hcells : ∀ (j : Nat) x, xs[j]? = some x → w.cell? ⟨bk, o + j, none⟩ = some (.string x))
    (hbk : bk < w.heap.size) (hN : n ≤ 140737488355328) (hcap : n ≤ c)
    (hlen : (Lib.join (xs.map (·.data.toList)) sep.data.toList).length ≤ 140737488355328) :
    Calls Tryd.prog 43 #[.slice (some ⟨bk, o, none⟩) n c, .string sep] w fun e w' => e = .returned (.string ⟨(Lib.join (xs.map (·.data.toList)) sep.data.toList).toArray⟩) ∧ Below w.heap.size w w' := by
  subst hn
  exact Any.strings_Join Tryd.layJoin Tryd.joinExtra bk o c xs sep w hcells hbk hN hcap hlen

/-- The digits, none for 0. -/
def digs (m : Nat) : List UInt8 := if m = 0 then [] else Lib.decDigits m
theorem digs_step {m : Nat} (h : m ≠ 0) : digs m = digs (m / 10) ++ [UInt8.ofNat (48 + m % 10)] := by
  unfold digs
  rw [if_neg h]
  by_cases h1 : m < 10
  · rw [Lib.decDigits_one h1, if_pos (by omega), show m % 10 = m by omega]; rfl
  · rw [if_neg (by omega), Lib.decDigits, dif_neg h1]
theorem digs_len (m : Nat) : (digs m).length ≤ m := by
  induction m using Nat.strongRecOn with
  | ind m ih =>
    by_cases h : m = 0
    · unfold digs; rw [if_pos h]; simp
    · rw [digs_step h, List.length_append, List.length_singleton]
      have := ih (m / 10) (by omega)
      omega
theorem infoByteD : (Tryd.prog.info? 5).map (fun i => (i.zero, i.size, i.bytes)) = some (some (Value.int .u8 0), 1, 1) := by kernel_rfl
theorem byteCells_snoc (l : List UInt8) (b : UInt8) : Lib.byteCells (l ++ [b]) = Lib.byteCells l ++ [.int .u8 (b.toNat : Int)] := by unfold Lib.byteCells; rw [List.map_append]; rfl
theorem byteCells_at {l : List UInt8} {k : Nat} {b : UInt8} (h : l[k]? = some b) : (Lib.byteCells l)[k]? = some (.int .u8 (b.toNat : Int)) := by unfold Lib.byteCells; rw [List.getElem?_map, h]; rfl
theorem byteCells_len (l : List UInt8) : (Lib.byteCells l).length = l.length := by unfold Lib.byteCells; rw [List.length_map]

set_option maxRecDepth 100000 in
set_option maxHeartbeats 2000000 in
theorem l01Dec_any (n : Nat) (hn : n ≤ 1048576) (w : World) :
    Calls Tryd.prog 50 #[.int .i64 n] w fun e w' => e = .returned (.string ⟨(Lib.decDigits n).toArray⟩) ∧ Below w.heap.size w w' := by
  by_cases h0 : n = 0
  · subst h0
    have h1 : Hid (Lib.decDigits 0 = [48]) := by unfold Hid; rw [Lib.decDigits_one (by omega)]; rfl
    go_enter Tryd.func50, Tryd.ntmps50
    go_wp2_with fail
    go_ret
    exact ⟨by rw [h1.out]; rfl, Below.refl _ _⟩
  have hnI : ¬ (n : Int) = 0 := by omega
  have hbe : ((n : Int) == 0) = false := by rw [beq_eq_false_iff_ne]; exact hnI
  have hneg : ¬ (n : Int) < 0 := by omega
  have HN0 := Lib.hid h0
  obtain ⟨wa, HWa, Ba, xa⟩ := al1 w (.cells #[] 5)
  have HO0 : Hid (wa.ownsRow w.heap.size 5 1 (.slice (some ⟨w.heap.size, 0, none⟩) 0 0) 0 (Lib.byteCells [])) := by
    have := own_of_block (n := 0) (cap := 0) (s := 1) (xs := []) (base := w.heap.size) xa (Nat.le_refl _) rfl (Nat.le_refl _) (Nat.zero_le _)
    unfold Hid
    simpa [Lib.byteCells] using this
  clear xa h0
  go_enter Tryd.func50, Tryd.ntmps50
  go_wp2_with fail
  rw [← HWa.out]
  go_loopw [3, 4] (fun d m wr => ∃ (k : Nat) (V : Value) (ds : List UInt8), m = .int .i64 k ∧ V = d ∧ k ≤ n ∧ Hid (wr.ownsRow w.heap.size 5 1 V ds.length (Lib.byteCells ds)) ∧ Hid (Below w.heap.size w wr) ∧ Hid (digs n = digs k ++ ds.reverse)) (fun _ m _ => (intOf m).toNat)
  case atStart => exact ⟨n, _, [], rfl, rfl, Nat.le_refl _, HO0, Ba, by unfold Hid; simp⟩
  case round =>
    obtain ⟨k, V, ds, rfl, rfl, hk, HO, HB, HD⟩ := hrel
    obtain ⟨ld, hld⟩ : ∃ l, ds.length = l := ⟨_, rfl⟩
    have HLD := Lib.hid hld
    have hll : ld ≤ 1048576 := by
      have h1 := congrArg List.length HD.out
      rw [List.length_append, List.length_reverse] at h1
      have := digs_len n
      omega
    have own := HO.out
    rw [hld] at own
    obtain ⟨AV, cV, hAV⟩ := own_form own
    subst hAV
    clear hld
    by_cases hz : k = 0
    · subst hz
      have e00 : ((0 : Nat) : Int) = 0 := rfl
      rw [e00]
      clear e00
      have HT : Hid (Lib.decDigits n = ds.reverse) := by
        have h1 := HD.out
        unfold digs at h1
        rw [if_neg HN0.out, if_pos rfl, List.nil_append] at h1
        exact h1
      obtain ⟨w3, HW3, b3, x3⟩ := al1 wr (.cells #[] 5)
      have HO3 : Hid (w3.ownsRow w.heap.size 5 1 (.slice (some ⟨wr.heap.size, 0, none⟩) 0 0) 0 (Lib.byteCells [])) := by
        have := own_of_block (n := 0) (cap := 0) (s := 1) (xs := []) (base := w.heap.size) x3 (by have := HB.out.size; omega) rfl (Nat.le_refl _) (Nat.zero_le _)
        unfold Hid
        simpa [Lib.byteCells] using this
      have HDS3 := Lib.hid (own_below' own b3)
      have HAP3 : Hid ((Value.slice (some ⟨wr.heap.size, 0, none⟩) 0 0).ownBlock ≠ (Value.slice AV ld cV).ownBlock) := by
        intro e
        have := (own.lt wr.heap.size e.symm).2
        omega
      have HB3 := Lib.hid (below_step HB.out b3)
      have hwl : IntKind.i64.wrap ((ld : Int) - 1) = (ld : Int) - 1 := IntWalk.i64_in _ (by omega)
      clear x3 b3 own
      go_wp2_with fail
      rw [← HW3.out]
      go_loopw [6, 7] (fun o i wr => ∃ (j : Nat) (z : Int) (V : Value), j ≤ ld ∧ i = .int .i64 z ∧ Hid (z = (j : Int) - 1) ∧ V = o ∧ Hid (wr.ownsRow w.heap.size 5 1 V ((ds.drop j).reverse).length (Lib.byteCells ((ds.drop j).reverse))) ∧ Hid (wr.ownsRow w.heap.size 5 1 (.slice AV ld cV) ld (Lib.byteCells ds)) ∧ Hid (V.ownBlock ≠ (Value.slice AV ld cV).ownBlock) ∧ Hid (Below w.heap.size w wr)) (fun _ i _ => (intOf i + 1).toNat)
      case atStart => exact ⟨ld, _, _, Nat.le_refl _, rfl, rfl, rfl, by rw [List.drop_of_length_le (Nat.le_of_eq HLD.out)]; exact HO3, HDS3, HAP3, HB3⟩
      case round =>
        obtain ⟨j, z, V, hj, rfl, hz, rfl, HOJ, HDJ, HAJ, HBJ⟩ := hrel
        cases j with
        | zero =>
          obtain rfl : z = -1 := hz.out
          have hstr := run_str2 (l := ds.reverse) (by have := HOJ.out; rw [List.drop_zero] at this; exact this)
          go_wp2_with fail
          go_ret
          exact ⟨by rw [HT.out]; rfl, HBJ.out⟩
        | succ p =>
          obtain rfl : z = (p : Int) := by have := hz.out; omega
          have hp0 : (0 : Int) ≤ (p : Int) := by omega
          have hpI : (p : Int) < (ld : Int) := by omega
          obtain ⟨b0, HB0⟩ := hget HLD (k := p) (by omega)
          have hag := arg_of_own HDJ.out
          obtain ⟨bd, od, hAV, hsd⟩ := hag.sl (k := p) (by omega)
          have hca : wr.cell? ⟨bd, od + p, none⟩ = some (.int .u8 (b0.toNat : Int)) := hsd.at (byteCells_at HB0.out)
          have HDR : Hid ((ds.drop p).reverse = (ds.drop (p + 1)).reverse ++ [b0]) := by
            unfold Hid
            obtain ⟨h1, h2⟩ := List.getElem?_eq_some_iff.1 HB0.out
            rw [List.drop_eq_getElem_cons h1, h2, List.reverse_cons]
          obtain ⟨lj, hlj⟩ : ∃ l, ((ds.drop (p + 1)).reverse).length = l := ⟨_, rfl⟩
          have HLJ := Lib.hid hlj
          have hlj2 : lj ≤ 1048576 := by rw [← hlj, List.length_reverse, List.length_drop, HLD.out]; omega
          have own := HOJ.out
          rw [hlj] at own
          obtain ⟨AW, cW, hAW⟩ := own_form own
          subst hAW
          obtain ⟨w4, HW4, b4, x4⟩ := al1 wr (.cells #[.int .u8 (b0.toNat : Int)] 5)
          have own4 := own_below' own b4
          have own4d := own_below' HDJ.out b4
          have HB4 := Lib.hid (below_step HBJ.out b4)
          have src4 : Src 1 w4 (.slice (some ⟨wr.heap.size, 0, none⟩) 1 1) 1 [.int .u8 (b0.toNat : Int)] := Src.of_own (own_of_block (n := 1) (cap := 1) (s := 1) (xs := [.int .u8 (b0.toNat : Int)]) (base := 0) x4 (by omega) rfl (by omega) (by unfold maxLen; omega))
          have hwp : IntKind.i64.wrap ((p : Int) - 1) = (p : Int) - 1 := IntWalk.i64_in _ (by omega)
          subst hAV
          clear hlj x4 b4 own hag hsd
          go_wp2_with (at_builtin; rw [← HW4.out]; refine wpList_appy rfl _ _ _ rfl Tryd.underlying105 infoByteD rfl (by omega) w.heap.size own4 HB4.out.size rfl src4 rfl (by simp [Value.oneCell']) (by unfold maxLen; omega) (by omega) ?_; intro V5 w5 own5 hg5 hl5)
          have HO5 : Hid (w5.ownsRow w.heap.size 5 1 V5 ((ds.drop p).reverse).length (Lib.byteCells ((ds.drop p).reverse))) := by unfold Hid; rw [HDR.out, List.length_append, HLJ.out, byteCells_snoc]; exact own5
          have HD5 := Lib.hid (own4d.kept hg5 (.inr HAJ.out.symm))
          have HA5 : Hid (V5.ownBlock ≠ (Value.slice (some ⟨bd, od, none⟩) ld cV).ownBlock) := by
            unfold Hid
            rcases hl5 with h1 | h1
            · rw [h1]; exact HAJ.out
            · rw [h1]; intro e2
              have := (own4d.lt _ e2.symm).2
              omega
          have HB5 := Lib.hid (grown_below HB4.out own4 (Nat.le_refl _) hg5)
          clear own4 own4d own5 hg5 hl5 src4
          go_roundw
          case rel => exact ⟨p, _, _, by omega, rfl, rfl, rfl, HO5, HD5, HA5, HB5⟩
          case measure => first | (simp [intOf]; done) | (simp [intOf]; omega)
    · have hzI : ¬ (k : Int) = 0 := by omega
      have hzb : ((k : Int) != 0) = true := by rw [bne_iff_ne]; exact hzI
      have hrem : (k : Int).tmod 10 = ((k % 10 : Nat) : Int) := by rfl
      have hquo : (k : Int).tdiv 10 = ((k / 10 : Nat) : Int) := by rfl
      obtain ⟨q, hq⟩ : ∃ q : Nat, k / 10 = q := ⟨_, rfl⟩
      obtain ⟨r, hr⟩ : ∃ r : Nat, k % 10 = r := ⟨_, rfl⟩
      rw [hr] at hrem; rw [hq] at hquo
      have hr10 : r < 10 := by omega
      have hrn : ¬ (r : Int) < 0 := by omega
      have hw1 : IntKind.i64.wrap (48 + (r : Int)) = 48 + (r : Int) := IntWalk.i64_in _ (by omega)
      have hw2 : IntKind.u8.wrap (48 + (r : Int)) = 48 + (r : Int) := by
        simp only [IntKind.wrap, IntKind.bits, IntKind.signed]
        first | omega | (simp; omega)
      have HDN : Hid (digs n = digs q ++ (ds ++ [UInt8.ofNat (48 + r)]).reverse) := by
        unfold Hid
        rw [HD.out, digs_step hz, hq, hr, List.reverse_append]; simp
      have hbv : Hid (((UInt8.ofNat (48 + r)).toNat : Int) = 48 + (r : Int)) := by unfold Hid; rw [UInt8.toNat_ofNat']; omega
      have hqk : Hid (q < k) := by unfold Hid; omega
      have hwq : IntKind.i64.wrap (q : Int) = (q : Int) := IntWalk.i64_in _ (by omega)
      obtain ⟨w1, HW1, b1, x1⟩ := al1 wr (.cells #[.int .u8 (48 + (r : Int))] 5)
      have own1 := own_below' own b1
      have HB1 := Lib.hid (below_step HB.out b1)
      have src1 : Src 1 w1 (.slice (some ⟨wr.heap.size, 0, none⟩) 1 1) 1 [.int .u8 (48 + (r : Int))] := Src.of_own (own_of_block (n := 1) (cap := 1) (s := 1) (xs := [.int .u8 (48 + (r : Int))]) (base := 0) x1 (by omega) rfl (by omega) (by unfold maxLen; omega))
      clear x1 b1 own hr hq
      go_wp2_with (at_builtin; rw [← HW1.out]; refine wpList_appx rfl _ _ _ rfl Tryd.underlying105 infoByteD rfl (by omega) w.heap.size own1 HB1.out.size rfl src1 rfl (by simp [Value.oneCell']) (by unfold maxLen; omega) (by omega) ?_; intro V2 w2 own2 hg2 hnil2)
      have HO2 : Hid (w2.ownsRow w.heap.size 5 1 V2 (ds ++ [UInt8.ofNat (48 + r)]).length (Lib.byteCells (ds ++ [UInt8.ofNat (48 + r)]))) := by unfold Hid; rw [List.length_append, HLD.out, byteCells_snoc, hbv.out]; exact own2
      have HB2 := Lib.hid (grown_below HB1.out own1 (Nat.le_refl _) hg2)
      clear own1 own2 hg2 hnil2 src1
      go_roundw
      case rel => exact ⟨q, _, ds ++ [UInt8.ofNat (48 + r)], rfl, rfl, by have := hqk.out; omega, HO2, HB2, HDN⟩
      case measure => have := hqk.out; simp [intOf]; omega
end Go.Proofs.YtgcedfpjgdeakaaDoor

/- Words turned round, on both sides; words of digits as texts. -/
namespace Go.Proofs.YtgcedfpjgdeakaaDoor
open Go.RowKit Go.Sort
set_option linter.all false

theorem reverse_any (base g n c : Nat) (xs : List Int) (w : World) (hown : w.ownsRow base 2 1 (.slice (some ⟨g, 0, none⟩) n c) n (xs.map (Value.int .i64))) (hn : n ≤ 1048576) :
    Calls Tryd.prog 90 #[.slice (some ⟨g, 0, none⟩) n c] w fun e w' => e = .returned (.tuple #[]) ∧ w'.ownsRow base 2 1 (.slice (some ⟨g, 0, none⟩) n c) n (xs.reverse.map (Value.int .i64)) ∧ w.grownBy w' (Value.slice (some ⟨g, 0, none⟩) n c).ownBlock := by
  have hl : xs.length = n := by have := hown.1; simpa using this
  by_cases h0 : n = 0
  · subst h0
    have hx : xs = [] := List.eq_nil_of_length_eq_zero hl
    subst hx
    refine (AnyG.slices_Reverse_int_empty Tryd.layReverse (some ⟨g, 0, none⟩) c w).mono ?_
    rintro e w' ⟨rfl, rfl⟩
    exact ⟨rfl, hown, ⟨rfl, rfl, rfl, Nat.le_refl _, fun _ _ _ => rfl⟩⟩
  have hk := AnyG.slices_Reverse_int Tryd.layReverse g 0 c xs w (holds_of_own hown) (by omega)
  rw [hl] at hk
  refine hk.mono ?_
  rintro e w' ⟨rfl, q, rfl⟩
  obtain ⟨h1, h2⟩ := own_putRow hown xs.reverse (by simp; omega) q
  exact ⟨rfl, h1, h2⟩

set_option maxRecDepth 100000 in
theorem reversed_any (b off n c : Nat) (xs : List Int) (w : World) (hs : Sl w b off (xs.map (Value.int .i64))) (hl : xs.length = n) (hn : n ≤ 1048576) :
    Calls Tryd.prog 63 #[.slice (some ⟨b, off, none⟩) n c] w fun e w' => ∃ g d, e = .returned (.slice (some ⟨g, 0, none⟩) n d) ∧ w'.ownsRow w.heap.size 2 1 (.slice (some ⟨g, 0, none⟩) n d) n (xs.reverse.map (Value.int .i64)) ∧ Below w.heap.size w w' ∧ n ≤ d := by
  go_enter Tryd.func63, Tryd.ntmps63
  go_wp2_with fail
  refine (cloneA_any b off n c xs _ hs hl hn).mono ?_
  rintro e w1 ⟨g, d, rfl, own1, b1, hd⟩
  go_wp2_with fail
  refine (reverse_any w.heap.size g n d xs _ own1 hn).mono ?_
  rintro e w2 ⟨rfl, own2, hg2⟩
  have B2 := grown_below b1 own1 (Nat.le_refl _) hg2
  go_wp2_with fail
  go_ret
  exact ⟨g, d, rfl, own2, B2, hd⟩

set_option maxRecDepth 100000 in
theorem l03Reverse_any (b off n c : Nat) (xs : List Int) (w : World) (hs : Sl w b off (xs.map (Value.int .i64))) (hl : xs.length = n) (hn : n ≤ 1048576) :
    Calls Tryd.prog 52 #[.slice (some ⟨b, off, none⟩) n c] w fun e w' => ∃ g d, e = .returned (.slice (some ⟨g, 0, none⟩) n d) ∧ w'.ownsRow w.heap.size 2 1 (.slice (some ⟨g, 0, none⟩) n d) n (xs.reverse.map (Value.int .i64)) ∧ Below w.heap.size w w' ∧ n ≤ d := by
  have HL := Lib.hid hl; clear hl
  obtain ⟨w1, HW1, B1, own1⟩ : ∃ w1, Hid (w1 = w.alloc (.cells #[] 2)) ∧ Below w.heap.size w w1 ∧ w1.ownsRow w.heap.size 2 1 (.slice (some ⟨w.heap.size, 0, none⟩) 0 0) 0 [] := ⟨_, rfl, laid_below _ _, own_empty w _ 1⟩
  have wn : IntKind.i64.wrap ((n : Int) - 1) = (n : Int) - 1 := IntWalk.i64_in _ (by omega)
  go_enter Tryd.func52, Tryd.ntmps52
  go_wp2_with fail
  rw [← HW1.out]
  go_loopw [3, 4] (fun V i wr => ∃ k g d : Nat, k ≤ n ∧ i = .int .i64 ((k : Int) - 1) ∧ V = .slice (some ⟨g, 0, none⟩) (n - k) d ∧ n - k ≤ d ∧ wr.ownsRow w.heap.size 2 1 (.slice (some ⟨g, 0, none⟩) (n - k) d) (n - k) ((xs.drop k).reverse.map (Value.int .i64)) ∧ Below w.heap.size w wr) (fun _ i _ => (intOf i + 1).toNat)
  case atStart => exact ⟨n, w.heap.size, 0, Nat.le_refl _, rfl, by rw [Nat.sub_self], by omega, by rw [Nat.sub_self, List.drop_of_length_le (by have := HL.out; omega)]; exact own1, B1⟩
  case round =>
    obtain ⟨k, g, d, hk, rfl, rfl, hd, hown, hB⟩ := hrel
    clear own1 B1 HW1
    rcases Nat.eq_zero_or_pos k with h0 | h0
    · subst h0
      have e0 : ((0 : Nat) : Int) - 1 = -1 := rfl
      rw [e0]
      rw [Nat.sub_zero, List.drop_zero] at hown
      rw [Nat.sub_zero] at hd
      go_wp2_with fail
      go_ret
      exact ⟨g, d, by rw [Nat.sub_zero]; rfl, hown, hB, hd⟩
    obtain ⟨p, rfl⟩ : ∃ p, k = p + 1 := ⟨k - 1, by omega⟩
    have e0 : ((p + 1 : Nat) : Int) - 1 = (p : Int) := by omega
    rw [e0]
    obtain ⟨a, HA, ha⟩ := map_at (Value.int .i64) xs (k := p) (by have := HL.out; omega)
    have hca := (hs.below' hB).at ha
    have hp0 : (0 : Int) ≤ (p : Int) := by omega
    have hpn : (p : Int) < (n : Int) := by omega
    have wp : IntKind.i64.wrap ((p : Int) - 1) = (p : Int) - 1 := IntWalk.i64_in _ (by omega)
    obtain ⟨m, hm⟩ : ∃ m, n - (p + 1) = m := ⟨_, rfl⟩
    rw [hm] at hown hd ⊢
    have hmp : n - p = m + 1 := by omega
    obtain ⟨wa, HWA, BA, xa⟩ := al1 wr (.cells #[.int .i64 a] 2)
    have srca : Src 1 wa (.slice (some ⟨wr.heap.size, 0, none⟩) 1 1) 1 ([a].map (Value.int .i64)) := Src.of_sl ⟨heap_lt xa, fun q v hq => by rw [cell_of_heap xa]; simpa using hq⟩ rfl
    have owna := own_below' hown BA
    have hsz := Nat.le_trans hB.size BA.size
    have BW := below_step hB BA
    clear xa ha e0 h0 hm
    go_wp2_with (at_builtin; rw [← HWA.out]; refine wpList_appx rfl _ _ _ rfl Tryd.underlying82 infoInt64S rfl (by omega) w.heap.size owna hsz rfl srca rfl (one_ints _ _) (by unfold maxLen; omega) (by omega) ?_; intro V4 w4 own4 hg4 hnil4; have hne4 : V4 ≠ .slice none 0 0 := (fun h => by have := (hnil4 h).2; omega); have BG := grown_below BW owna (Nat.le_refl _) hg4; obtain ⟨g4, d4, hV4, hd4⟩ := own_adr own4 hne4; subst hV4; clear hnil4 hne4 hg4)
    have own5 : w4.ownsRow w.heap.size 2 1 (.slice (some ⟨g4, 0, none⟩) (n - p) d4) (n - p) ((xs.drop p).reverse.map (Value.int .i64)) := by
      rw [hmp, drop_at HA.out, List.reverse_cons, List.map_append]; exact own4
    have hd5 : n - p ≤ d4 := by omega
    have hV5 : Value.slice (some ⟨g4, 0, none⟩) (m + 1) d4 = .slice (some ⟨g4, 0, none⟩) (n - p) d4 := by rw [hmp]
    have HV5 := Lib.hid hV5
    clear own4 hown owna srca hsz BW BA hB hca hV5 hmp
    go_roundw
    case rel => exact ⟨p, g4, d4, by omega, by go_num, HV5.out, hd5, own5, BG⟩
    case measure => first | (simp [intOf]; done) | (simp [intOf]; omega)

theorem digT_take {xs : List Int} {k : Nat} {x : Int} (h : xs[k]? = some x) : digT (xs.take (k + 1)) = digT (xs.take k) ++ [UInt8.ofNat (48 + x.toNat)] := by
  rw [List.take_add_one, h]; unfold digT; rw [List.map_append]; rfl
theorem dig_cell {x : Int} (h : 0 ≤ x ∧ x ≤ 9) : Lib.byteCells [UInt8.ofNat (48 + x.toNat)] = [.int .u8 (48 + x)] := by
  obtain ⟨m, rfl⟩ : ∃ m : Nat, x = m := ⟨x.toNat, by omega⟩
  have h1 : (UInt8.ofNat (48 + m)).toNat = 48 + m := by rw [UInt8.toNat_ofNat']; omega
  simp only [Lib.byteCells, List.map_cons, List.map_nil, Int.toNat_natCast, h1]
  congr 2

set_option maxRecDepth 100000 in
set_option maxHeartbeats 1000000 in
theorem l03Text_dig (b off n c : Nat) (xs : List Int) (w : World) (hs : Sl w b off (xs.map (Value.int .i64))) (hl : xs.length = n) (hn : n ≤ 1048576) (h0 : 0 < n) (hx : ∀ x ∈ xs, 0 ≤ x ∧ x ≤ 9) :
    Calls Tryd.prog 81 #[.slice (some ⟨b, off, none⟩) n c] w fun e w' => e = .returned (.string ⟨(digT xs).toArray⟩) ∧ Below w.heap.size w w' := by
  have HL := Lib.hid hl; have HX := Lib.hid hx
  have hz : ((n : Int) == 0) = false := by rw [beq_eq_false_iff_ne]; omega
  obtain ⟨wa, HWa, Ba, xa⟩ := al1 w (.cells #[] 5)
  have HO0 : Hid (wa.ownsRow w.heap.size 5 1 (.slice (some ⟨w.heap.size, 0, none⟩) 0 0) 0 (Lib.byteCells [])) := by
    have := own_of_block (n := 0) (cap := 0) (s := 1) (xs := []) (base := w.heap.size) xa (Nat.le_refl _) rfl (Nat.le_refl _) (Nat.zero_le _)
    unfold Hid
    simpa [Lib.byteCells] using this
  have HBa := Lib.hid Ba
  clear xa hl hx h0 Ba
  go_enter Tryd.func81, Tryd.ntmps81
  go_wp2_with fail
  rw [← HWa.out]
  go_loopw [3, 4] (fun o i wr => ∃ (k : Nat) (V : Value), k ≤ n ∧ i = .int .i64 k ∧ V = o ∧ Hid (wr.ownsRow w.heap.size 5 1 V k (Lib.byteCells (digT (xs.take k)))) ∧ Hid (Below w.heap.size w wr)) (fun _ i _ => n - (intOf i).toNat)
  case atStart => exact ⟨0, _, Nat.zero_le _, rfl, rfl, HO0, HBa⟩
  case round =>
    obtain ⟨k, V, hk, rfl, rfl, HO, HB⟩ := hrel
    have own := HO.out
    obtain ⟨AV, cV, hAV⟩ := own_form own
    subst hAV
    by_cases hlt : k < n
    · obtain ⟨y, HY, hy⟩ := map_at (Value.int .i64) xs (k := k) (by have := HL.out; omega)
      have hcb := (hs.below' HB.out).at hy
      obtain ⟨y0, y9⟩ := HX.out y (List.mem_of_getElem? HY.out)
      have hw8 : IntKind.u8.wrap (48 + y) = 48 + y := IntWalk.u8_in _ (by omega)
      have hw64 : IntKind.i64.wrap (48 + y) = 48 + y := IntWalk.i64_in _ (by omega)
      have HT : Hid (Lib.byteCells (digT (xs.take (k + 1))) = Lib.byteCells (digT (xs.take k)) ++ [.int .u8 (48 + y)]) := by
        unfold Hid
        rw [digT_take HY.out, ← dig_cell ⟨y0, y9⟩]
        simp [Lib.byteCells]
      have hbz := HB.out.size
      clear hy
      go_wp2_with (at_builtin; refine wpList_appg rfl _ _ _ rfl Tryd.underlying105 infoU8 rfl (by omega) w.heap.size wr own hbz rfl 1 #[.int .u8 (48 + y)] rfl (laid_below _ _) (heap_alloc_new _ _) rfl (by simp [Value.oneCell']) (by omega) (by unfold maxLen; omega) (by omega) ?_; intro g2 cap2 w2 hown2 hg2; have HO2 : Hid (w2.ownsRow w.heap.size 5 1 (.slice (some ⟨g2, 0, none⟩) (k + 1) cap2) (k + 1) (Lib.byteCells (digT (xs.take (k + 1))))) := (by unfold Hid; rw [HT.out]; exact hown2); have HB2 := Lib.hid (grown_below HB.out own (Nat.le_refl _) hg2); clear hown2 hg2 own)
      go_roundw
      case rel => exact ⟨k + 1, _, by omega, by go_num, by first | rfl | go_num, HO2, HB2⟩
      case measure => simp [intOf]; omega
    · obtain rfl : k = n := by omega
      have HF : Hid (xs.take k = xs) := List.take_of_length_le (by have := HL.out; omega)
      rw [HF.out] at own
      have hlen : (digT xs).length = k := by rw [digT_len]; exact HL.out
      rw [← hlen] at own
      have hstr := run_str2 own
      rw [hlen] at hstr
      go_wp2_with fail
      go_ret
      exact ⟨rfl, HB.out⟩

theorem l05Digits_dig (b off n c : Nat) (xs : List Int) (w : World) (hs : Sl w b off (xs.map (Value.int .i64))) (hl : xs.length = n) (hn : n ≤ 1048576) (hx : ∀ x ∈ xs, 0 ≤ x ∧ x ≤ 9) :
    Calls Tryd.prog 51 #[.slice (some ⟨b, off, none⟩) n c] w fun e w' => e = .returned (.string ⟨(digT xs).toArray⟩) ∧ Below w.heap.size w w' := by
  rcases Nat.eq_zero_or_pos n with h0 | h0
  · subst h0
    have hx0 : xs = [] := List.eq_nil_of_length_eq_zero hl
    subst hx0
    go_enter Tryd.func51, Tryd.ntmps51
    go_wp2_with fail
    go_ret
    exact ⟨rfl, Below.refl _ _⟩
  · have hz : ((n : Int) == 0) = false := by rw [beq_eq_false_iff_ne]; omega
    go_enter Tryd.func51, Tryd.ntmps51
    go_wp2_with fail
    refine (l03Text_dig b off n c xs w hs hl hn h0 hx).mono ?_
    rintro e w1 ⟨rfl, b1⟩
    go_wp2_with fail
    go_ret
    exact ⟨rfl, b1⟩

theorem appendRune_small (B : Nat) (v : Value) (n : Nat) (xs : List Value) (r : Int) (h0 : 0 ≤ r) (h1 : r ≤ 127) (w : World) (hown : w.ownsRow B 5 1 v n xs) (hlen : n + 1 ≤ 8388608) (hBw : B ≤ w.heap.size) :
    Calls Tryd.prog 107 #[v, .int .i32 r] w fun e w' => ∃ g cap, e = .returned (.slice (some ⟨g, 0, none⟩) (n + 1) cap) ∧ w'.ownsRow B 5 1 (.slice (some ⟨g, 0, none⟩) (n + 1) cap) (n + 1) (xs ++ [.int .u8 r]) ∧ w.grownBy w' v.ownBlock := by
  have hw8 : IntKind.u8.wrap r = r := IntWalk.u8_in _ (by omega)
  have hw32 : IntKind.u32.wrap r = r := IntWalk.u32_in _ (by omega)
  go_enter Tryd.func107, Tryd.ntmps107
  go_wp2_with (at_builtin; refine wpList_appg rfl _ _ _ rfl Tryd.underlying105 infoU8 rfl (by omega) B w hown hBw rfl 1 #[.int .u8 r] rfl (laid_below _ _) (heap_alloc_new _ _) rfl (by simp [Value.oneCell']) (by omega) (by unfold maxLen; omega) (by omega) ?_; intro g2 cap2 w2 hown2 hg2)
  go_ret
  exact ⟨g2, cap2, rfl, hown2, hg2⟩

set_option maxRecDepth 100000 in
theorem writeRuneAny (B b : Nat) (bs : List Value) (r : Int) (h0 : 0 ≤ r) (h1 : r ≤ 127) (w : World) (h : Lib.IsBuilder 107 5 B b bs w) (hlen : bs.length + 1 ≤ 8388608) (hBw : B ≤ w.heap.size) :
    Calls Tryd.prog 88 #[.pointer (some ⟨b, 0, none⟩), .int .i32 r] w fun e w' => e = .returned (.tuple #[.int .i64 1, .nilIface]) ∧ Lib.IsBuilder 107 5 B b (bs ++ [.int .u8 r]) w' ∧ Below B w w' := by
  go_enter Tryd.func88, Tryd.ntmps88
  go_wp2_with fail
  refine (copyCheck_any B b bs w h).mono ?_
  rintro e w1 ⟨rfl, ⟨hB, v, hb, hown, hne⟩, hBl, hK⟩
  obtain ⟨m, hm⟩ : ∃ m, bs.length = m := ⟨_, rfl⟩
  rw [hm] at hown hlen
  obtain ⟨Av, cv, rfl⟩ := own_form hown
  have hc1 : w1.cell? ⟨b, 1, none⟩ = some (.slice Av m cv) := by rw [cell_of_heap hb]; rfl
  have HB := Lib.hid hb
  have HM := Lib.hid hm
  have hsz := hBl.size
  clear hb h hm
  go_wp2_with fail
  refine (appendRune_small B _ m bs r h0 h1 w1 hown hlen (by omega)).mono ?_
  rintro e w2 ⟨g2, cap2, rfl, hown2, hg2⟩
  obtain ⟨hc2, hf2, HB2⟩ := bld_keep hg2 HB.out hne
  have FINB : Hid (Below B w (w2.setCell ⟨b, 1, none⟩ (.slice (some ⟨g2, 0, none⟩) (m + 1) cap2))) := (hBl.trans ((Below.refl B w1).grown hg2 (by omega) fun k hk => (hown.lt k hk).1)).setCell hB _
  have FINI : Hid (Lib.IsBuilder 107 5 B b (bs ++ [.int .u8 r]) (w2.setCell ⟨b, 1, none⟩ (.slice (some ⟨g2, 0, none⟩) (m + 1) cap2))) := .inr (Lib.BuilderAt.put hB HB2.out (by simpa [HM.out] using hown2) (by decide))
  have hmm : (m : Int) + 1 - (m : Int) = 1 := by omega
  clear hown hown2 hg2 hne hBl hK hc1
  go_wp2_with fail
  go_ret2
  exact ⟨by first | rfl | (simp; done), FINI.out, FINB.out⟩

set_option maxRecDepth 100000 in
set_option maxHeartbeats 1000000 in
theorem digitsText_any (b off n c : Nat) (xs : List Int) (w : World) (hs : Sl w b off (xs.map (Value.int .i64))) (hl : xs.length = n) (hn : n ≤ 1048576) (hx : ∀ x ∈ xs, 0 ≤ x ∧ x ≤ 9) :
    Calls Tryd.prog 62 #[.slice (some ⟨b, off, none⟩) n c] w fun e w' => e = .returned (.string ⟨(digT xs).toArray⟩) ∧ Below w.heap.size w w' := by
  have HL := Lib.hid hl; have HX := Lib.hid hx
  obtain ⟨wa, HWa, Ba, xa⟩ := al1 w (.cells #[.pointer none, .slice none 0 0] 107)
  have HI0 : Hid (Lib.IsBuilder 107 5 w.heap.size w.heap.size [] wa) := by
    unfold Hid; rw [HWa.out]
    exact Lib.fresh_isBuilder _ _ w
  have HBa := Lib.hid Ba
  clear xa hl hx Ba
  go_enter Tryd.func62, Tryd.ntmps62
  go_wp2_with fail
  rw [← HWa.out]
  go_loopw [8] (fun i wr => ∃ (k : Nat), k ≤ n ∧ i = .int .i64 k ∧ Hid (Lib.IsBuilder 107 5 w.heap.size w.heap.size (Lib.byteCells (digT (xs.take k))) wr) ∧ Hid (Below w.heap.size w wr)) (fun i _ => n - (intOf i).toNat)
  case atStart => exact ⟨0, Nat.zero_le _, rfl, HI0, HBa⟩
  case round =>
    obtain ⟨k, hk, rfl, HI, HB⟩ := hrel
    by_cases hlt : k < n
    · obtain ⟨y, HY, hy⟩ := map_at (Value.int .i64) xs (k := k) (by have := HL.out; omega)
      have hcb := (hs.below' HB.out).at hy
      obtain ⟨y0, y9⟩ := HX.out y (List.mem_of_getElem? HY.out)
      have hw32 : IntKind.i32.wrap y = y := IntWalk.i32_in _ (by omega)
      have hw32b : IntKind.i32.wrap (48 + y) = 48 + y := IntWalk.i32_in _ (by omega)
      have HT : Hid (Lib.byteCells (digT (xs.take (k + 1))) = Lib.byteCells (digT (xs.take k)) ++ [.int .u8 (48 + y)]) := by
        unfold Hid
        rw [digT_take HY.out, ← dig_cell ⟨y0, y9⟩]
        simp [Lib.byteCells]
      have hlen : (Lib.byteCells (digT (xs.take k))).length + 1 ≤ 8388608 := by rw [byteCellsL_len, digT_len, List.length_take]; have := HL.out; omega
      have hbz := HB.out.size
      clear hy
      go_wp2_with fail
      refine (writeRuneAny w.heap.size w.heap.size _ (48 + y) (by omega) (by omega) wr HI.out hlen hbz).mono ?_
      rintro e w2 ⟨rfl, hI2, hB2⟩
      have HI2 : Hid (Lib.IsBuilder 107 5 w.heap.size w.heap.size (Lib.byteCells (digT (xs.take (k + 1)))) w2) := by unfold Hid; rw [HT.out]; exact hI2
      have HB2 := Lib.hid (HB.out.trans hB2)
      clear hI2 hB2
      go_wp2_with fail
      go_roundw
      case rel => exact ⟨k + 1, by omega, by go_num, HI2, HB2⟩
      case measure => simp [intOf]; omega
    · obtain rfl : k = n := by omega
      have HF : Hid (Lib.IsBuilder 107 5 w.heap.size w.heap.size (Lib.byteCells (digT xs)) wr) := by
        have := HI.out
        rw [List.take_of_length_le (by have := HL.out; omega)] at this
        exact this
      go_wp2_with fail
      refine (builderString w.heap.size w.heap.size (digT xs) wr HF.out HB.out.size).mono ?_
      rintro e w2 ⟨rfl, hB2⟩
      have HB2 := Lib.hid (HB.out.trans hB2)
      clear hB2
      go_wp2_with fail
      go_ret
      exact ⟨rfl, HB2.out⟩
end Go.Proofs.YtgcedfpjgdeakaaDoor

/- The text of a configuration of a machine with several tapes, on both sides: l19Multi, multiConfigText. -/
namespace Go.Proofs.YtgcedfpjgdeakaaDoor
open Go.RowKit
set_option linter.all false

theorem isBuilder_below {B b : Nat} {bs : List Value} {w w' : World} (h : Lib.IsBuilder 107 5 B b bs w) (hb : Below w.heap.size w w') : Lib.IsBuilder 107 5 B b bs w' := by
  have hh : ∀ p, Lib.BuilderAt 107 5 B b p bs w → Lib.BuilderAt 107 5 B b p bs w' := by
    rintro p ⟨h1, v, h2, h3, h4⟩
    exact ⟨h1, v, (hb.block _ (heap_lt h2)).trans h2, own_below' h3 hb, h4⟩
  rcases h with h | h
  · exact .inl (hh _ h)
  · exact .inr (hh _ h)

/-- The tapes of a good configuration are short, their symbols are digits. -/
theorem tp_facts {s : Int} {x : DTape} (h : tpOk s x = true) (hs : 2 ≤ s ∧ s ≤ 3) : x.f0.length ≤ 200 ∧ x.f1.length ≤ 200 ∧ (∀ y ∈ x.f0, 0 ≤ y ∧ y ≤ 9) ∧ (∀ y ∈ x.f1, 0 ≤ y ∧ y ≤ 9) := by
  unfold tpOk sideOk at h
  simp only [Bool.and_eq_true, decide_eq_true_eq, List.all_eq_true] at h
  obtain ⟨⟨h1, h2, _⟩, h3, h4, _⟩ := h
  refine ⟨h1, h3, fun y hy => ?_, fun y hy => ?_⟩
  · have := (inB_iff _ _ _).1 (h2 y hy); omega
  · have := (inB_iff _ _ _).1 (h4 y hy); omega
theorem tapeT_len {s : Int} {x : DTape} (h : tpOk s x = true) (hs : 2 ≤ s ∧ s ≤ 3) : (tapeT x).length ≤ 402 := by
  obtain ⟨h1, h2, _⟩ := tp_facts h hs
  simp only [tapeT, List.length_cons, List.length_append, digT_len, List.length_reverse]
  omega
theorem tapesT_len {s : Int} {ds : List DTape} (h : ∀ x ∈ ds, tpOk s x = true) (hs : 2 ≤ s ∧ s ≤ 3) : (ds.flatMap tapeT).length ≤ 402 * ds.length := by
  induction ds with
  | nil => simp
  | cons x l ih =>
    rw [List.flatMap_cons, List.length_append, List.length_cons]
    have h1 := tapeT_len (h x (by simp)) hs
    have h2 := ih (fun y hy => h y (by simp [hy]))
    omega
/-- What is written of the text ahead of the k-th tape. -/
def preT (st : Int) (ds : List DTape) (k : Nat) : List UInt8 := 40 :: (decT st ++ 41 :: (ds.take k).flatMap tapeT)
theorem preT_succ {st : Int} {ds : List DTape} {k : Nat} {x : DTape} (h : ds[k]? = some x) : preT st ds (k + 1) = preT st ds k ++ tapeT x := by
  unfold preT
  rw [List.take_add_one, h]
  simp
theorem preT_all {st : Int} {ds : List DTape} {k : Nat} (h : ds.length ≤ k) : preT st ds k = mcT st ds := by unfold preT mcT; rw [List.take_of_length_le h]
theorem preT_len {st s : Int} {ds : List DTape} (h : ∀ x ∈ ds, tpOk s x = true) (hs : 2 ≤ s ∧ s ≤ 3) (hst : 0 ≤ st ∧ st ≤ 15) (hl : ds.length ≤ 3) (k : Nat) : (preT st ds k).length ≤ 2000 := by
  have h1 := tapesT_len (ds := ds.take k) (fun x hx => h x (List.mem_of_mem_take hx)) hs
  have h2 := decT_len hst
  rw [List.length_take] at h1
  simp only [preT, List.length_cons, List.length_append]
  omega

/-- The words of one tape, by calls in whatever world behind w. -/
structure TpW (w : World) (g1 g2 l1 l2 : Nat) (x : DTape) : Prop where
  s1 : Sl w g1 0 (x.f0.map (.int .i64))
  s2 : Sl w g2 0 (x.f1.map (.int .i64))
  n1 : x.f0.length = l1
  n2 : x.f1.length = l2
  b1 : l1 ≤ 200
  b2 : l2 ≤ 200
  d1 : ∀ y ∈ x.f0.reverse, 0 ≤ y ∧ y ≤ 9
  d2 : ∀ y ∈ x.f1, 0 ≤ y ∧ y ≤ 9

set_option maxRecDepth 100000 in
set_option maxHeartbeats 4000000 in
theorem l19Multi_any (gc gt nt ct : Nat) (st s : Int) (ts : List ETape) (ds : List DTape) (w : World) (hC : CfF w gc gt st nt ct ts) (hd : ts.map (·.d) = ds) (hl : ds.length = nt) (hn : nt ≤ 3) (hs : 2 ≤ s ∧ s ≤ 3) (hst : 0 ≤ st ∧ st ≤ 15) (hok : ∀ x ∈ ds, tpOk s x = true) :
    Calls Tryd.prog 27 #[.pointer (some ⟨gc, 0, none⟩)] w fun e w' => e = .returned (.string ⟨(mcT st ds).toArray⟩) ∧ Below w.heap.size w w' := by
  have C0 := Lib.hid hC
  have HD := Lib.hid hd
  have HLD := Lib.hid hl
  have HLE : Hid (ts.length = nt) := by unfold Hid; rw [← hl, ← hd, List.length_map]
  have HOK := Lib.hid hok
  have HPL := Lib.hid (preT_len hok hs hst (by omega))
  have HSB := Lib.hid hs
  obtain ⟨c0, c1⟩ := hC.cells
  obtain ⟨m, rfl⟩ : ∃ m : Nat, st = m := ⟨st.toNat, by omega⟩
  obtain ⟨D, hD⟩ : ∃ D, Lib.decDigits m = D := ⟨_, rfl⟩
  have HDEC : Hid (∀ W, Calls Tryd.prog 50 #[.int .i64 m] W fun e w' => e = .returned (.string ⟨D.toArray⟩) ∧ Below W.heap.size W w') := by
    intro W; rw [← hD]; exact l01Dec_any m (by omega) W
  have hDl : D.length ≤ 2 := by have := decT_len (n := (m : Int)) hst; unfold decT at this; rw [Int.toNat_natCast, hD] at this; exact this
  obtain ⟨t1, ht1⟩ : ∃ t, [40] ++ D = t := ⟨_, rfl⟩
  have hr1 := fun W => run_cat (P := Tryd.prog) [40] D (by simp; omega) W
  rw [ht1] at hr1
  have hl1 : t1.length ≤ 3 := by rw [← ht1]; simp; omega
  obtain ⟨t2, ht2⟩ : ∃ t, t1 ++ [41] = t := ⟨_, rfl⟩
  have hr2 := fun W => run_cat (P := Tryd.prog) t1 [41] (by simp; omega) W
  rw [ht2] at hr2
  have HP0 : Hid (t2 = preT (m : Int) ds 0) := by unfold Hid preT decT; rw [← ht2, ← ht1, Int.toNat_natCast, hD]; simp
  clear hC hd hl hok hs hst hD ht1 ht2 hl1 hDl
  go_enter Tryd.func27, Tryd.ntmps27
  go_wp2_with fail
  refine (HDEC.out _).mono ?_
  rintro e w1 ⟨rfl, b1⟩
  have HB1 := Lib.hid b1
  obtain ⟨c0, c1⟩ := (C0.out.below b1).cells
  clear b1
  go_wp2_with fail
  clear hr1 hr2
  go_loopw [3, 4] (fun o i wr => ∃ (k : Nat) (OS : List UInt8), k ≤ nt ∧ i = .int .i64 k ∧ o = .string ⟨OS.toArray⟩ ∧ Hid (OS = preT (m : Int) ds k) ∧ Hid (Below w.heap.size w wr)) (fun _ i _ => nt - (intOf i).toNat)
  case atStart => exact ⟨0, t2, Nat.zero_le _, rfl, rfl, HP0, HB1⟩
  case round =>
    clear c0 c1 HP0 HB1
    obtain ⟨k, OS, hk, rfl, rfl, HOS, HB⟩ := hrel
    have C := Lib.hid (C0.out.below HB.out)
    obtain ⟨c0, c1⟩ := C.out.cells
    by_cases hlt : k < nt
    rotate_left
    · have HF : Hid (OS = mcT (m : Int) ds) := by unfold Hid; rw [HOS.out]; exact preT_all (by have := HLD.out; omega)
      obtain rfl : k = nt := by omega
      go_wp2_with fail
      go_ret
      exact ⟨by rw [HF.out]; rfl, HB.out⟩
    obtain ⟨e, he⟩ : ∃ e, ts[k]? = some e := ⟨_, List.getElem?_eq_getElem (by have := HLE.out; omega)⟩
    have HE : Hid (ds[k]? = some e.d) := by unfold Hid; rw [← HD.out, List.getElem?_map, he]; rfl
    have hem := List.mem_of_getElem? he
    obtain ⟨hb1, hb2, hd1, hd2⟩ := tp_facts (HOK.out e.d (List.mem_of_getElem? HE.out)) HSB.out
    obtain ⟨⟨g1, hu1, hs1⟩, ⟨g2, hu2, hs2⟩, -⟩ := C.out.rc.at hem
    obtain ⟨p0, p1⟩ := tpC_of C.out.rs he
    obtain ⟨l1, hl1⟩ : ∃ l, e.d.f0.length = l := ⟨_, rfl⟩
    obtain ⟨l2, hl2⟩ : ∃ l, e.d.f1.length = l := ⟨_, rfl⟩
    rw [hl1] at hu1 hb1; rw [hl2] at hu2 hb2
    rw [hu1] at p0; rw [hu2] at p1
    have T := Lib.hid (show TpW wr g1 g2 l1 l2 e.d from ⟨hs1, hs2, hl1, hl2, hb1, hb2, fun y hy => hd1 y (List.mem_reverse.1 hy), hd2⟩)
    have HREV : Hid (∀ W : World, Below wr.heap.size wr W → Calls Tryd.prog 52 #[.slice (some ⟨g1, 0, none⟩) l1 l1] W fun z w' => (∃ gr dr, z = .returned (.slice (some ⟨gr, 0, none⟩) l1 dr) ∧ Sl w' gr 0 (e.d.f0.reverse.map (Value.int .i64))) ∧ Below W.heap.size W w') := by
      intro W hW
      refine (l03Reverse_any g1 0 l1 l1 e.d.f0 W (T.out.s1.below' hW) T.out.n1 (by have := T.out.b1; omega)).mono ?_
      rintro z w' ⟨gr, dr, rfl, own, b, _⟩
      exact ⟨⟨gr, dr, rfl, sl_of_own own⟩, b⟩
    obtain ⟨RL, hRL⟩ : ∃ RL, digT e.d.f0.reverse = RL := ⟨_, rfl⟩
    obtain ⟨RR, hRR⟩ : ∃ RR, digT e.d.f1 = RR := ⟨_, rfl⟩
    have HDL : Hid (∀ (gr dr : Nat) (W : World), Sl W gr 0 (e.d.f0.reverse.map (Value.int .i64)) → Calls Tryd.prog 51 #[.slice (some ⟨gr, 0, none⟩) l1 dr] W fun z w' => z = .returned (.string ⟨RL.toArray⟩) ∧ Below W.heap.size W w') := by
      intro gr dr W hW
      rw [← hRL]
      exact l05Digits_dig gr 0 l1 dr e.d.f0.reverse W hW (by rw [List.length_reverse]; exact T.out.n1) (by have := T.out.b1; omega) T.out.d1
    have HDR : Hid (∀ W : World, Below wr.heap.size wr W → Calls Tryd.prog 51 #[.slice (some ⟨g2, 0, none⟩) l2 l2] W fun z w' => z = .returned (.string ⟨RR.toArray⟩) ∧ Below W.heap.size W w') := by
      intro W hW
      rw [← hRR]
      exact l05Digits_dig g2 0 l2 l2 e.d.f1 W (T.out.s2.below' hW) T.out.n2 (by have := T.out.b2; omega) T.out.d2
    have hRLl : RL.length ≤ 200 := by rw [← hRL, digT_len, List.length_reverse, hl1]; exact hb1
    have hRRl : RR.length ≤ 200 := by rw [← hRR, digT_len, hl2]; exact hb2
    have hOSl : OS.length ≤ 2000 := by rw [HOS.out]; exact HPL.out k
    obtain ⟨a1, ha1⟩ : ∃ t, [124] ++ RL = t := ⟨_, rfl⟩
    have hr1 := fun W => run_cat (P := Tryd.prog) [124] RL (by simp; omega) W
    rw [ha1] at hr1
    have hla1 : a1.length ≤ 201 := by rw [← ha1]; simp; omega
    obtain ⟨a2, ha2⟩ : ∃ t, a1 ++ [94] = t := ⟨_, rfl⟩
    have hr2 := fun W => run_cat (P := Tryd.prog) a1 [94] (by simp; omega) W
    rw [ha2] at hr2
    have hla2 : a2.length ≤ 202 := by rw [← ha2]; simp; omega
    obtain ⟨a3, ha3⟩ : ∃ t, a2 ++ RR = t := ⟨_, rfl⟩
    have hr3 := fun W => run_cat (P := Tryd.prog) a2 RR (by omega) W
    rw [ha3] at hr3
    have hla3 : a3.length ≤ 402 := by rw [← ha3]; simp; omega
    obtain ⟨OT, hOT⟩ : ∃ t, OS ++ a3 = t := ⟨_, rfl⟩
    have hr4 := fun W => run_cat (P := Tryd.prog) OS a3 (by omega) W
    rw [hOT] at hr4
    have HOT : Hid (OT = preT (m : Int) ds (k + 1)) := by
      unfold Hid
      rw [preT_succ HE.out, ← hOT, ← HOS.out, ← ha3, ← ha2, ← ha1, ← hRL, ← hRR]
      simp [tapeT]
    have BR := Below.refl wr.heap.size wr
    clear he hem hl1 hl2 hu1 hu2 hs1 hs2 hb1 hb2 hd1 hd2 hRL hRR ha1 ha2 ha3 hOT hla1 hla2 hla3 hRLl hRRl hOSl
    have k1_ : True := trivial
    go_wp2_with fail
    go_region_held3 (fun W => W.cell? ⟨gc, 1, none⟩ = some (.slice (some ⟨gt, 0, none⟩) nt ct) ∧ W.cell? ⟨gt, k * 2, none⟩ = some (.slice (some ⟨g1, 0, none⟩) l1 l1) ∧ W.cell? ⟨gt, k * 2 + 1, none⟩ = some (.slice (some ⟨g2, 0, none⟩) l2 l2)) (first | go_keep | exact ⟨c1, p0, p1⟩)
      ((first
        | (have _ := k1_; clear k1_; go_at_call 52; refine (HREV.out _ (by exact BR.drew)).mono ?_; rintro z x1 ⟨⟨gr, dr, rfl, slr⟩, bb⟩; replace bb := below_drew_at bb; replace c1 := cell_step (by exact c1) bb; replace p0 := cell_step (by exact p0) bb; replace p1 := cell_step (by exact p1) bb; replace BR := below_step BR bb; clear bb; have k2_ : True := trivial)
        | (have _ := k2_; clear k2_; go_at_call 51; refine (HDL.out _ _ _ slr).mono ?_; rintro z x2 ⟨rfl, bb⟩; replace c1 := cell_step (by exact c1) bb; replace p0 := cell_step (by exact p0) bb; replace p1 := cell_step (by exact p1) bb; replace BR := below_step BR bb; clear bb; have k3_ : True := trivial)
        | (have _ := k3_; clear k3_; go_at_call 51; refine (HDR.out _ (by exact BR)).mono ?_; rintro z x3 ⟨rfl, bb⟩; replace c1 := cell_step (by exact c1) bb; replace p0 := cell_step (by exact p0) bb; replace p1 := cell_step (by exact p1) bb; replace BR := below_step BR bb; clear bb; have k4_ : True := trivial)))
    all_goals
      have HBN := Lib.hid (below_step HB.out BR)
      clear BR c1 p0 p1 c0
      go_wp2_with fail
      go_roundw
      case rel => exact ⟨k + 1, OT, by omega, by go_num, rfl, HOT, HBN⟩
      case measure => simp [intOf]; omega
end Go.Proofs.YtgcedfpjgdeakaaDoor

/- The text of a configuration of a machine with several tapes, by the program: multiConfigText. -/
namespace Go.Proofs.YtgcedfpjgdeakaaDoor
open Go.RowKit
set_option linter.all false

set_option maxRecDepth 100000 in
theorem writeStringK (B b : Nat) (bs : List Value) (s : ByteArray) (w : World) (h : Lib.IsBuilder 107 5 B b bs w) (hlen : bs.length + s.size ≤ 8388608) (hBw : B ≤ w.heap.size) :
    Calls Tryd.prog 61 #[.pointer (some ⟨b, 0, none⟩), .string s] w fun e w' => e = .returned (.tuple #[.int .i64 s.size, .nilIface]) ∧ Lib.IsBuilder 107 5 B b (bs ++ Lib.strCells s) w' ∧ Below B w w' ∧ KeepB w w' := by
  obtain ⟨i0, hi, hz0, hz1, hz2⟩ := info_parts infoU8
  go_enter Tryd.func61, Tryd.ntmps61
  go_wp2_with fail
  refine (copyCheck_any B b bs w h).mono ?_
  rintro e w1 ⟨rfl, ⟨hB, v, hb, hown, hne⟩, hBl, hK⟩
  have hc1 : w1.cell? ⟨b, 1, none⟩ = some v := by rw [cell_of_heap hb]; rfl
  have HB := Lib.hid hb
  have hsz := hBl.size
  clear hb h
  go_wp2_with (at_builtin; refine Lib.wpList_append_own_string _ rfl _ _ 105 9 rfl B 5 i0 Tryd.underlying105 Tryd.underlying9 hi hz0 hz1 hz2 _ _ _ rfl hown s rfl (by unfold maxLen; omega) (by omega) (by omega) ?_; intro v2 w2 hown2 hg2 hx2; obtain ⟨hc2, hf2, HB2⟩ := bld_keep hg2 HB.out hne; obtain ⟨A2, c2, rfl⟩ := own_form hown2)
  go_ret2
  refine ⟨rfl, .inr (Lib.BuilderAt.put hB HB2.out (by simpa [Lib.strCells_length] using hown2) (by decide)), ?_, ?_⟩
  · exact (hBl.trans ((Below.refl B w1).grown hg2 (by omega) fun k hk => (hown.lt k hk).1)).setCell hB _
  · refine hK.trans ⟨hg2.os, hg2.tape, hg2.output, by simpa [World.setCell] using hg2.size, fun g' cs t fr hg' h1 h2 => ?_⟩
    have e1 := grown_keep hg2 hg' (own_ne_block hown hg' (fun e => h2 e.symm))
    exact heap_set_other e1 _ (heap_ne e1 HB2.out h1) _

set_option maxRecDepth 100000 in
set_option maxHeartbeats 4000000 in
theorem multiConfigText_any (gt nt ct : Nat) (st s : Int) (ts : List ETape) (ds : List DTape) (w : World) (hR : Sl w gt 0 (rows ETape.vs ts)) (hRc : RcsTape w ts) (hd : ts.map (·.d) = ds) (hl : ds.length = nt) (hn : nt ≤ 3) (hs : 2 ≤ s ∧ s ≤ 3) (hst : 0 ≤ st ∧ st ≤ 15) (hok : ∀ x ∈ ds, tpOk s x = true) :
    Calls Tryd.prog 31 #[.agg #[.int .i64 st, .slice (some ⟨gt, 0, none⟩) nt ct]] w fun e w' => e = .returned (.string ⟨(mcT st ds).toArray⟩) ∧ Below w.heap.size w w' := by
  have HR0 := Lib.hid hR
  have HRC0 := Lib.hid hRc
  have HD := Lib.hid hd
  have HLD := Lib.hid hl
  have HLE : Hid (ts.length = nt) := by unfold Hid; rw [← hl, ← hd, List.length_map]
  have HOK := Lib.hid hok
  have HPL := Lib.hid (preT_len hok hs hst (by omega))
  have HSB := Lib.hid hs
  obtain ⟨m, rfl⟩ : ∃ m : Nat, st = m := ⟨st.toNat, by omega⟩
  obtain ⟨D, hD⟩ : ∃ D, Lib.decDigits m = D := ⟨_, rfl⟩
  have HDEC : Hid (∀ W, Calls Tryd.prog 42 #[.int .i64 m] W fun e w' => e = .returned (.string ⟨D.toArray⟩) ∧ W = w') := by
    intro W; rw [← hD]; exact decimal_small m (by omega) W
  have hDl : D.length ≤ 2 := by have := decT_len (n := (m : Int)) hst; unfold decT at this; rw [Int.toNat_natCast, hD] at this; exact this
  obtain ⟨t1, ht1⟩ : ∃ t, [40] ++ D = t := ⟨_, rfl⟩
  have hr1 := fun W => run_cat (P := Tryd.prog) [40] D (by simp; omega) W
  rw [ht1] at hr1
  have hl1 : t1.length ≤ 3 := by rw [← ht1]; simp; omega
  obtain ⟨t2, ht2⟩ : ∃ t, t1 ++ [41] = t := ⟨_, rfl⟩
  have hr2 := fun W => run_cat (P := Tryd.prog) t1 [41] (by simp; omega) W
  rw [ht2] at hr2
  have hl2 : t2.length ≤ 4 := by rw [← ht2]; simp; omega
  have HP0 : Hid (t2 = preT (m : Int) ds 0) := by unfold Hid preT decT; rw [← ht2, ← ht1, Int.toNat_natCast, hD]; simp
  obtain ⟨wa, wb, HWA, HWB, BB, xa, HI0, sza⟩ : ∃ wa wb : World, Hid (wa = w.alloc (.cells #[.int .i64 m, .slice (some ⟨gt, 0, none⟩) nt ct] 43)) ∧ Hid (wb = wa.alloc (.cells #[.pointer none, .slice none 0 0] 107)) ∧ Below w.heap.size w wb ∧ wb.heap[w.heap.size]? = some (.cells #[.int .i64 m, .slice (some ⟨gt, 0, none⟩) nt ct] 43) ∧ Lib.IsBuilder 107 5 (w.heap.size + 1) (w.heap.size + 1) [] wb ∧ w.heap.size + 1 ≤ wb.heap.size := by
    obtain ⟨wa, HWA, ba, xa⟩ := al1 w (.cells #[.int .i64 m, .slice (some ⟨gt, 0, none⟩) nt ct] 43)
    obtain ⟨wb, HWB, bb, xb⟩ := al1 wa (.cells #[.pointer none, .slice none 0 0] 107)
    have hz : wa.heap.size = w.heap.size + 1 := by rw [HWA.out]; simp
    refine ⟨wa, wb, HWA, HWB, below_step ba bb, (bb.block _ (heap_lt xa)).trans xa, ?_, by have := bb.size; omega⟩
    have := Lib.fresh_isBuilder 107 5 wa
    rw [hz] at this
    rw [HWB.out]; exact this
  have c0 : wb.cell? ⟨w.heap.size, 0, none⟩ = some (.int .i64 m) := by rw [cell_of_heap xa]; rfl
  have HI0 := Lib.hid HI0
  have HXA := Lib.hid xa
  have HBB := Lib.hid BB
  clear hR hRc hd hl hok hs hst hD ht1 ht2 hl1 hDl BB xa
  go_enter Tryd.func31, Tryd.ntmps31
  go_wp2_with fail
  rw [← HWA.out, ← HWB.out]
  refine (HDEC.out _).mono ?_
  rintro e w1 ⟨rfl, rfl⟩
  go_wp2_with fail
  refine (writeStringAny (w.heap.size + 1) (w.heap.size + 1) [] ⟨t2.toArray⟩ wb HI0.out (by simp [ByteArray.size]; omega) sza).mono ?_
  rintro e w2 ⟨rfl, hI2, hB2⟩
  have HI2 : Hid (Lib.IsBuilder 107 5 (w.heap.size + 1) (w.heap.size + 1) (Lib.byteCells (preT (m : Int) ds 0)) w2) := by unfold Hid; rw [← HP0.out, ← strCells_list]; simpa using hI2
  have HX2 := Lib.hid ((hB2.block w.heap.size (by omega)).trans HXA.out)
  have HB2 := Lib.hid (HBB.out.trans (hB2.mono (by omega)))
  have c1 : w2.cell? ⟨w.heap.size, 1, none⟩ = some (.slice (some ⟨gt, 0, none⟩) nt ct) := by rw [cell_of_heap HX2.out]; rfl
  clear hI2 hB2 c0 hr1 hr2 hl2 HP0
  go_wp2_with fail
  go_loopw [15] (fun i wr => ∃ (k : Nat), k ≤ nt ∧ i = .int .i64 k ∧ Hid (Lib.IsBuilder 107 5 (w.heap.size + 1) (w.heap.size + 1) (Lib.byteCells (preT (m : Int) ds k)) wr) ∧ Hid (Below w.heap.size w wr) ∧ w.heap.size + 1 ≤ wr.heap.size) (fun i _ => nt - (intOf i).toNat)
  case atStart => exact ⟨0, Nat.zero_le _, rfl, HI2, HB2, heap_lt HX2.out⟩
  case round =>
    clear c1 HI2 HB2
    obtain ⟨k, hk, rfl, HI, HB, hsz⟩ := hrel
    by_cases hlt : k < nt
    rotate_left
    · have HF : Hid (preT (m : Int) ds k = mcT (m : Int) ds) := preT_all (by have := HLD.out; omega)
      have HI3 := HI.out
      rw [HF.out] at HI3
      obtain rfl : k = nt := by omega
      go_wp2_with fail
      refine (builderString (w.heap.size + 1) (w.heap.size + 1) (mcT (m : Int) ds) wr HI3 hsz).mono ?_
      rintro e w3 ⟨rfl, b3⟩
      have HB3 := Lib.hid (HB.out.trans (b3.mono (by omega)))
      clear b3 HI3
      go_wp2_with fail
      go_ret
      exact ⟨rfl, HB3.out⟩
    obtain ⟨e, he⟩ : ∃ e, ts[k]? = some e := ⟨_, List.getElem?_eq_getElem (by have := HLE.out; omega)⟩
    have HE : Hid (ds[k]? = some e.d) := by unfold Hid; rw [← HD.out, List.getElem?_map, he]; rfl
    have hem := List.mem_of_getElem? he
    obtain ⟨hb1, hb2, hd1, hd2⟩ := tp_facts (HOK.out e.d (List.mem_of_getElem? HE.out)) HSB.out
    obtain ⟨⟨g1, hu1, hs1⟩, ⟨g2, hu2, hs2⟩, -⟩ := (HRC0.out.below HB.out).at hem
    obtain ⟨p0, p1⟩ := tpC_of (HR0.out.below' HB.out) he
    obtain ⟨l1, hl1⟩ : ∃ l, e.d.f0.length = l := ⟨_, rfl⟩
    obtain ⟨l2, hl2⟩ : ∃ l, e.d.f1.length = l := ⟨_, rfl⟩
    rw [hl1] at hu1 hb1; rw [hl2] at hu2 hb2
    rw [hu1] at p0; rw [hu2] at p1
    obtain ⟨wt, HWT, bt, xt⟩ := al1 wr (.cells #[.slice (some ⟨g1, 0, none⟩) l1 l1, .slice (some ⟨g2, 0, none⟩) l2 l2] 94)
    have T := Lib.hid (show TpW wt g1 g2 l1 l2 e.d from ⟨hs1.below' bt, hs2.below' bt, hl1, hl2, hb1, hb2, fun y hy => hd1 y (List.mem_reverse.1 hy), hd2⟩)
    have HREV : Hid (∀ W : World, Below wt.heap.size wt W → Calls Tryd.prog 63 #[.slice (some ⟨g1, 0, none⟩) l1 l1] W fun z w' => (∃ gr dr, z = .returned (.slice (some ⟨gr, 0, none⟩) l1 dr) ∧ Sl w' gr 0 (e.d.f0.reverse.map (Value.int .i64))) ∧ Below W.heap.size W w') := by
      intro W hW
      refine (reversed_any g1 0 l1 l1 e.d.f0 W (T.out.s1.below' hW) T.out.n1 (by have := T.out.b1; omega)).mono ?_
      rintro z w' ⟨gr, dr, rfl, own, b, _⟩
      exact ⟨⟨gr, dr, rfl, sl_of_own own⟩, b⟩
    obtain ⟨RL, hRL⟩ : ∃ RL, digT e.d.f0.reverse = RL := ⟨_, rfl⟩
    obtain ⟨RR, hRR⟩ : ∃ RR, digT e.d.f1 = RR := ⟨_, rfl⟩
    have HDL : Hid (∀ (gr dr : Nat) (W : World), Sl W gr 0 (e.d.f0.reverse.map (Value.int .i64)) → Calls Tryd.prog 62 #[.slice (some ⟨gr, 0, none⟩) l1 dr] W fun z w' => z = .returned (.string ⟨RL.toArray⟩) ∧ Below W.heap.size W w') := by
      intro gr dr W hW
      rw [← hRL]
      exact digitsText_any gr 0 l1 dr e.d.f0.reverse W hW (by rw [List.length_reverse]; exact T.out.n1) (by have := T.out.b1; omega) T.out.d1
    have HDR : Hid (∀ W : World, Below wt.heap.size wt W → Calls Tryd.prog 62 #[.slice (some ⟨g2, 0, none⟩) l2 l2] W fun z w' => z = .returned (.string ⟨RR.toArray⟩) ∧ Below W.heap.size W w') := by
      intro W hW
      rw [← hRR]
      exact digitsText_any g2 0 l2 l2 e.d.f1 W (T.out.s2.below' hW) T.out.n2 (by have := T.out.b2; omega) T.out.d2
    have hRLl : RL.length ≤ 200 := by rw [← hRL, digT_len, List.length_reverse, hl1]; exact hb1
    have hRRl : RR.length ≤ 200 := by rw [← hRR, digT_len, hl2]; exact hb2
    obtain ⟨a1, ha1⟩ : ∃ t, [124] ++ RL = t := ⟨_, rfl⟩
    have hr1 := fun W => run_cat (P := Tryd.prog) [124] RL (by simp; omega) W
    rw [ha1] at hr1
    have hla1 : a1.length ≤ 201 := by rw [← ha1]; simp; omega
    obtain ⟨a2, ha2⟩ : ∃ t, a1 ++ [94] = t := ⟨_, rfl⟩
    have hr2 := fun W => run_cat (P := Tryd.prog) a1 [94] (by simp; omega) W
    rw [ha2] at hr2
    have hla2 : a2.length ≤ 202 := by rw [← ha2]; simp; omega
    obtain ⟨a3, ha3⟩ : ∃ t, a2 ++ RR = t := ⟨_, rfl⟩
    have hr3 := fun W => run_cat (P := Tryd.prog) a2 RR (by omega) W
    rw [ha3] at hr3
    have hla3 : a3.length ≤ 402 := by rw [← ha3]; simp; omega
    have HOT : Hid (preT (m : Int) ds (k + 1) = preT (m : Int) ds k ++ a3) := by
      unfold Hid
      rw [preT_succ HE.out, ← ha3, ← ha2, ← ha1, ← hRL, ← hRR]
      simp [tapeT]
    have HWS : Hid (∀ W : World, Lib.IsBuilder 107 5 (w.heap.size + 1) (w.heap.size + 1) (Lib.byteCells (preT (m : Int) ds k)) W → w.heap.size + 1 ≤ W.heap.size → Calls Tryd.prog 61 #[.pointer (some ⟨w.heap.size + 1, 0, none⟩), .string ⟨a3.toArray⟩] W fun z w' => (∃ q, z = .returned (.tuple #[.int .i64 q, .nilIface])) ∧ Lib.IsBuilder 107 5 (w.heap.size + 1) (w.heap.size + 1) (Lib.byteCells (preT (m : Int) ds (k + 1))) w' ∧ Below (w.heap.size + 1) W w' ∧ KeepB W w') := by
      intro W hW hsW
      refine (writeStringK (w.heap.size + 1) (w.heap.size + 1) _ ⟨a3.toArray⟩ W hW (by rw [byteCellsL_len]; have := HPL.out k; simp [ByteArray.size]; omega) hsW).mono ?_
      rintro z w' ⟨rfl, h1, h2, h3⟩
      refine ⟨⟨_, rfl⟩, ?_, h2, h3⟩
      rw [HOT.out, byteCellsL_app, ← strCells_list a3]
      exact h1
    have q0 : wt.cell? ⟨wr.heap.size, 0, none⟩ = some (.slice (some ⟨g1, 0, none⟩) l1 l1) := by rw [cell_of_heap xt]; rfl
    have q1 : wt.cell? ⟨wr.heap.size, 1, none⟩ = some (.slice (some ⟨g2, 0, none⟩) l2 l2) := by rw [cell_of_heap xt]; rfl
    have XT := Lib.hid xt
    have HIT := isBuilder_below HI.out bt
    have HBT := below_step HB.out bt
    have BR := Below.refl wt.heap.size wt
    have hszt : w.heap.size + 1 ≤ wt.heap.size := by have := bt.size; omega
    clear he hem hl1 hl2 hu1 hu2 hs1 hs2 hb1 hb2 hd1 hd2 hRL hRR ha1 ha2 ha3 hla1 hla2 hla3 hRLl hRRl bt xt
    have k1_ : True := trivial
    go_upto_region 6 with fail
    rw [← HWT.out]
    clear p0 p1
    go_region_held3 (fun W => W.cell? ⟨wr.heap.size, 0, none⟩ = some (.slice (some ⟨g1, 0, none⟩) l1 l1) ∧ W.cell? ⟨wr.heap.size, 1, none⟩ = some (.slice (some ⟨g2, 0, none⟩) l2 l2)) (first | go_keep | exact ⟨q0, q1⟩)
      ((first
        | (have _ := k1_; clear k1_; go_at_call 63; refine (HREV.out _ (by exact BR.drew)).mono ?_; rintro z x1 ⟨⟨gr, dr, rfl, slr⟩, bb⟩; replace bb := below_drew_at bb; replace q0 := cell_step (by exact q0) bb; replace q1 := cell_step (by exact q1) bb; replace HIT := isBuilder_below HIT bb; replace XT := Lib.hid ((bb.block _ (heap_lt XT.out)).trans XT.out); replace HBT := below_step HBT bb; replace BR := below_step BR bb; replace hszt := Nat.le_trans hszt bb.size; clear bb; have k2_ : True := trivial)
        | (have _ := k2_; clear k2_; go_at_call 62; refine (HDL.out _ _ _ slr).mono ?_; rintro z x2 ⟨rfl, bb⟩; replace q0 := cell_step (by exact q0) bb; replace q1 := cell_step (by exact q1) bb; replace HIT := isBuilder_below HIT bb; replace XT := Lib.hid ((bb.block _ (heap_lt XT.out)).trans XT.out); replace HBT := below_step HBT bb; replace BR := below_step BR bb; replace hszt := Nat.le_trans hszt bb.size; clear bb; have k3_ : True := trivial)
        | (have _ := k3_; clear k3_; go_at_call 62; refine (HDR.out _ (by exact BR)).mono ?_; rintro z x3 ⟨rfl, bb⟩; replace q0 := cell_step (by exact q0) bb; replace q1 := cell_step (by exact q1) bb; replace HIT := isBuilder_below HIT bb; replace XT := Lib.hid ((bb.block _ (heap_lt XT.out)).trans XT.out); replace HBT := below_step HBT bb; replace BR := below_step BR bb; replace hszt := Nat.le_trans hszt bb.size; clear bb; have k4_ : True := trivial)
        | (have _ := k4_; clear k4_; go_at_call 61; refine (HWS.out _ HIT hszt).mono ?_; rintro z x4 ⟨⟨qq, rfl⟩, hI4, bb, kb⟩; have xt4 := kb.block _ _ _ _ XT.out (by decide) (by decide); have q0' : x4.cell? ⟨wr.heap.size, 0, none⟩ = some (.slice (some ⟨g1, 0, none⟩) l1 l1) := (by rw [cell_of_heap xt4]; rfl); have q1' : x4.cell? ⟨wr.heap.size, 1, none⟩ = some (.slice (some ⟨g2, 0, none⟩) l2 l2) := (by rw [cell_of_heap xt4]; rfl); replace q0 := q0'; replace q1 := q1'; clear q0' q1' kb xt4; have HBN := HBT.trans (bb.mono (by omega)); have hszn := Nat.le_trans hszt bb.size; clear HIT HBT BR; have k5_ : True := trivial)))
    all_goals
      have HI4 := Lib.hid hI4
      have HBN := Lib.hid HBN
      clear hI4 bb q0 q1
      go_wp2_with fail
      go_roundw
      case rel => exact ⟨k + 1, by omega, by go_num, HI4, HBN, hszn⟩
      case measure => simp [intOf]; omega
end Go.Proofs.YtgcedfpjgdeakaaDoor

/- MultiConfigText: the reference and the program answer with the same text. -/
namespace Go.Proofs.YtgcedfpjgdeakaaDoor
open Go.RowKit
set_option linter.all false

theorem lensOk_of {es : List EMultiRule} {ds : List DMultiRule} (hd : es.map (·.d) = ds) (h : sumMultiRule ds ≤ 1048576) : lensOk es := by
  intro e he
  obtain ⟨k, hk⟩ := List.getElem?_of_mem he
  have h1 : ds[k]? = some e.d := by rw [← hd, List.getElem?_map, hk]; rfl
  have h2 := sumMultiRule_at h1
  unfold wlMultiRule at h2
  omega
theorem lensT_of {es : List ETape} {ds : List DTape} (hd : es.map (·.d) = ds) (h : sumTape ds ≤ 1048576) : lensT es := by
  intro e he
  obtain ⟨k, hk⟩ := List.getElem?_of_mem he
  have h1 : ds[k]? = some e.d := by rw [← hd, List.getElem?_map, hk]; rfl
  have h2 := sumTape_at h1
  unfold wlTape at h2
  omega
theorem ret_string {s1 s2 : ByteArray} (h : s1 = s2) : Ending.returned (.string s1) = Ending.returned (.string s2) := by rw [h]

set_option maxRecDepth 100000 in
set_option maxHeartbeats 4000000 in
theorem specMultiConfigText_is (t s q : Int) (gr n c : Nat) (es : List EMultiRule) (ds : List DMultiRule) (st : Int) (gt m ct : Nat) (ts : List ETape) (td : List DTape) (w : World) (hR : Sl w gr 0 (rows EMultiRule.vs es)) (hRc : RcsMultiRule w es) (hd : es.map (·.d) = ds) (hl : ds.length = n) (hn : n ≤ 1048576) (hsum : sumMultiRule ds ≤ 1048576) (hT : Sl w gt 0 (rows ETape.vs ts)) (hTc : RcsTape w ts) (htd : ts.map (·.d) = td) (htl : td.length = m) (htn : m ≤ 1048576) (htsum : sumTape td ≤ 1048576) :
    Calls Tryd.prog 12 #[.agg #[.int .i64 t, .int .i64 s, .int .i64 q, .slice (some ⟨gr, 0, none⟩) n c], .agg #[.int .i64 st, .slice (some ⟨gt, 0, none⟩) m ct]] w fun e w' => e = .returned (.string (mcText t s q ds st td)) ∧ Below w.heap.size w w' := by
  obtain ⟨w1, HW1, B1, x1, y1⟩ := al2 w (.cells #[.int .i64 t, .int .i64 s, .int .i64 q, .slice (some ⟨gr, 0, none⟩) n c] 39) (.cells #[.int .i64 st, .slice (some ⟨gt, 0, none⟩) m ct] 43)
  have M1 : Hid (McF w1 w.heap.size gr t s q n c es) := ⟨x1, hR.below' B1, hRc.below B1⟩
  have C1 : Hid (CfF w1 (w.heap.size + 1) gt st m ct ts) := ⟨y1, hT.below' B1, hTc.below B1⟩
  have HBW := Lib.hid B1
  obtain ⟨m0, m1, m2, m3⟩ := M1.out.cells
  obtain ⟨c0, c1⟩ := C1.out.cells
  have HI0 : ∀ v, multiOk t s q ds = v → _ := fun v hv => l06Is_is w.heap.size gr n c t s q es ds v hv w1 M1.out hd hl hn (lensOk_of hd hsum)
  cases h0 : multiOk t s q ds with
  | false =>
    have HI := Lib.hid (HI0 false h0)
    have HF : Hid (mcText t s q ds st td = ⟨#[]⟩) := mcText_no (by unfold mcOk; rw [h0]; rfl)
    clear HI0 hR hRc hd hl hsum hT hTc htd htl htsum x1 y1 B1 h0
    go_enter Tryd.func12, Tryd.ntmps12
    go_upto_region 1 with fail
    rw [← HW1.out]
    go_wp2_with (first
      | (go_at_call 25; refine HI.out.mono ?_; rintro z w' ⟨rfl, hq⟩; replace hq := QD.below hq; have B2 := Lib.hid (below_step HBW.out hq); replace hq := Lib.hid hq))
    go_ret
    exact ⟨ret_string HF.out.symm, B2.out⟩
  | true =>
  have HI := Lib.hid (HI0 true h0)
  have hmo := h0
  unfold multiOk at hmo
  simp only [Bool.and_eq_true] at hmo
  have hqb := (inB_iff _ _ _).1 hmo.2.2.1
  have hsb := (inB_iff _ _ _).1 hmo.2.1
  have htb := (inB_iff _ _ _).1 hmo.1
  have HG0 : ∀ v, goodC t s q st td = v → ∀ W : World, Below w1.heap.size w1 W → _ := fun v hv W hW => l06Good_is w.heap.size gr n c t s q es (w.heap.size + 1) gt m ct st ts td v hv W (M1.out.below hW) (C1.out.below hW) htd htl htn (lensT_of htd htsum) hsb hqb
  cases h1 : goodC t s q st td with
  | false =>
    have HG := Lib.hid (HG0 false h1)
    have HF : Hid (mcText t s q ds st td = ⟨#[]⟩) := mcText_no (by unfold mcOk; rw [h0, h1]; rfl)
    clear HI0 HG0 hR hRc hd hl hsum hT hTc htd htl htsum x1 y1 B1 h0 h1 hmo hqb hsb htb
    go_enter Tryd.func12, Tryd.ntmps12
    go_upto_region 1 with fail
    rw [← HW1.out]
    go_wp2_with (first
      | (go_at_call 25; refine HI.out.mono ?_; rintro z w' ⟨rfl, hq⟩; replace hq := QD.below hq; have B2 := Lib.hid (below_step HBW.out hq); replace hq := Lib.hid hq)
      | (go_at_call 26; refine (HG.out _ (by exact hq.out)).mono ?_; rintro z w' ⟨rfl, hq⟩; replace hq := QD.below hq; replace B2 := Lib.hid (below_step B2.out hq); replace hq := Lib.hid hq))
    go_ret
    exact ⟨ret_string HF.out.symm, B2.out⟩
  | true =>
  have hgo := h1
  unfold goodC at hgo
  simp only [Bool.and_eq_true, decide_eq_true_eq] at hgo
  have hst := (inB_iff _ _ _).1 hgo.1
  have hmt := hgo.2.1
  rw [htl] at hmt
  have hall : ∀ x ∈ td, tpOk s x = true := fun x hx => List.all_eq_true.1 hgo.2.2 x hx
  have HG := Lib.hid (HG0 true h1)
  have HF : Hid (mcText t s q ds st td = ⟨(mcT st td).toArray⟩) := mcText_yes (by unfold mcOk; rw [h0, h1]; rfl)
  have HM : Hid (∀ W : World, Below w.heap.size w W → Below w1.heap.size w1 W → Calls Tryd.prog 27 #[.pointer (some ⟨w.heap.size + 1, 0, none⟩)] W fun e w' => e = .returned (.string ⟨(mcT st td).toArray⟩) ∧ Below W.heap.size W w') := fun W _ hW =>
    l19Multi_any (w.heap.size + 1) gt m ct st s ts td W (C1.out.below hW) htd htl (by omega) hsb (by omega) hall
  have BR := Lib.hid (Below.refl w1.heap.size w1)
  clear HI0 HG0 hR hRc hd hl hsum hT hTc htd htl htsum x1 y1 B1 h0 h1 hmo hqb hsb htb hgo hst hmt hall
  go_enter Tryd.func12, Tryd.ntmps12
  go_upto_region 1 with fail
  rw [← HW1.out]
  go_wp2_with (first
    | (go_at_call 25; refine HI.out.mono ?_; rintro z w' ⟨rfl, hq⟩; replace hq := QD.below hq; have B2 := Lib.hid (below_step HBW.out hq); replace BR := Lib.hid (below_step BR.out hq); replace hq := Lib.hid hq)
    | (go_at_call 26; refine (HG.out _ (by exact hq.out)).mono ?_; rintro z w' ⟨rfl, hq⟩; replace hq := QD.below hq; replace B2 := Lib.hid (below_step B2.out hq); replace BR := Lib.hid (below_step BR.out hq); replace hq := Lib.hid hq)
    | (go_at_call 27; refine (HM.out _ B2.out BR.out).mono ?_; rintro z w' ⟨rfl, bb⟩; replace bb := Lib.hid bb))
  go_ret
  exact ⟨ret_string HF.out.symm, below_step B2.out bb.out⟩

set_option maxRecDepth 100000 in
set_option maxHeartbeats 4000000 in
theorem implMultiConfigText_is (t s q : Int) (gr n c : Nat) (es : List EMultiRule) (ds : List DMultiRule) (st : Int) (gt m ct : Nat) (ts : List ETape) (td : List DTape) (w : World) (hR : Sl w gr 0 (rows EMultiRule.vs es)) (hRc : RcsMultiRule w es) (hd : es.map (·.d) = ds) (hl : ds.length = n) (hn : n ≤ 1048576) (hsum : sumMultiRule ds ≤ 1048576) (hT : Sl w gt 0 (rows ETape.vs ts)) (hTc : RcsTape w ts) (htd : ts.map (·.d) = td) (htl : td.length = m) (htn : m ≤ 1048576) (htsum : sumTape td ≤ 1048576) :
    Calls Tryd.prog 15 #[.agg #[.int .i64 t, .int .i64 s, .int .i64 q, .slice (some ⟨gr, 0, none⟩) n c], .agg #[.int .i64 st, .slice (some ⟨gt, 0, none⟩) m ct]] w fun e w' => e = .returned (.string (mcText t s q ds st td)) ∧ Below w.heap.size w w' := by
  obtain ⟨w1, HW1, B1, x1, y1⟩ := al2 w (.cells #[.int .i64 t, .int .i64 s, .int .i64 q, .slice (some ⟨gr, 0, none⟩) n c] 39) (.cells #[.int .i64 st, .slice (some ⟨gt, 0, none⟩) m ct] 43)
  have M1 : Hid (McF w1 w.heap.size gr t s q n c es) := ⟨x1, hR.below' B1, hRc.below B1⟩
  have C1 : Hid (CfF w1 (w.heap.size + 1) gt st m ct ts) := ⟨y1, hT.below' B1, hTc.below B1⟩
  have HBW := Lib.hid B1
  obtain ⟨m0, m1, m2, m3⟩ := M1.out.cells
  obtain ⟨c0, c1⟩ := C1.out.cells
  have HV0 : ∀ v, mcOk t s q ds st td = v → _ := fun v hv => validMultiConfig_is t s q gr n c es ds st gt m ct ts td v hv w1 M1.out.rs M1.out.rc hd hl hn (lensOk_of hd hsum) C1.out.rs C1.out.rc htd htl htn (lensT_of htd htsum)
  cases hv : mcOk t s q ds st td with
  | false =>
    have HV := Lib.hid (HV0 false hv)
    have HF : Hid (mcText t s q ds st td = ⟨#[]⟩) := mcText_no hv
    clear HV0 hR hRc hd hl hsum hT hTc htd htl htsum x1 y1 B1 hv
    go_enter Tryd.func15, Tryd.ntmps15
    go_upto_region 1 with fail
    rw [← HW1.out]
    go_wp2_with (go_at_call 30; refine HV.out.mono ?_; rintro z w' ⟨rfl, bb⟩; replace bb := Lib.hid bb)
    go_ret
    exact ⟨ret_string HF.out.symm, below_step HBW.out bb.out⟩
  | true =>
  have HV := Lib.hid (HV0 true hv)
  have HF : Hid (mcText t s q ds st td = ⟨(mcT st td).toArray⟩) := mcText_yes hv
  have hmo := hv
  unfold mcOk multiOk at hmo
  simp only [Bool.and_eq_true] at hmo
  have h1 := hmo.2
  have hqb := (inB_iff _ _ _).1 hmo.1.2.2.1
  have hsb := (inB_iff _ _ _).1 hmo.1.2.1
  have htb := (inB_iff _ _ _).1 hmo.1.1
  have hgo := h1
  unfold goodC at hgo
  simp only [Bool.and_eq_true, decide_eq_true_eq] at hgo
  have hst := (inB_iff _ _ _).1 hgo.1
  have hmt := hgo.2.1
  rw [htl] at hmt
  have hall : ∀ x ∈ td, tpOk s x = true := fun x hx => List.all_eq_true.1 hgo.2.2 x hx
  have HM : Hid (∀ W : World, Below w1.heap.size w1 W → Calls Tryd.prog 31 #[.agg #[.int .i64 st, .slice (some ⟨gt, 0, none⟩) m ct]] W fun e w' => e = .returned (.string ⟨(mcT st td).toArray⟩) ∧ Below W.heap.size W w') := fun W hW =>
    multiConfigText_any gt m ct st s ts td W (C1.out.rs.below' hW) (C1.out.rc.below hW) htd htl (by omega) hsb (by omega) hall
  clear HV0 hR hRc hd hl hsum hT hTc htd htl htsum x1 y1 B1 hv h1 hmo hqb hsb htb hgo hst hmt hall
  go_enter Tryd.func15, Tryd.ntmps15
  go_upto_region 1 with fail
  rw [← HW1.out]
  go_wp2_with (first
    | (go_at_call 30; refine HV.out.mono ?_; rintro z w' ⟨rfl, bb⟩; have k0 := cell_step c0 bb; have k1 := cell_step c1 bb; replace bb := Lib.hid bb)
    | (go_at_call 31; refine (HM.out _ bb.out).mono ?_; rintro z w' ⟨rfl, bc⟩; replace bc := Lib.hid bc))
  go_ret
  exact ⟨ret_string HF.out.symm, below_step (below_step HBW.out bb.out) bc.out⟩
end Go.Proofs.YtgcedfpjgdeakaaDoor
