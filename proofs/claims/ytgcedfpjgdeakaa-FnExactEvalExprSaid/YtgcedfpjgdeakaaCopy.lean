/- The builtin copy on rows of records; the row behind it is a variable's. Plain laws. -/
import Derived.Test.YtgcedfpjgdeakaaRec
import Derived.Test.YtgcedfpjgdeakaaApp
import Derived.Laws.CopyOwn
namespace Go.Proofs.Ytgcedfpjgdeakaa
open Go.RowKit
set_option linter.all false

section
variable {P : Program}
theorem run_copy_rows (w : World) (dT sT ty elem : TypeId) (g o dLen dCap : Nat) (a : Addr) (sLen sCap s m : Nat) (cur : Array Value) (t : TypeId) (cs : List Value)
    (hu : P.underlying dT = some (.slice elem)) (hs : (P.info? elem).map (·.size) = some s)
    (hg : w.heap[g]? = some (.cells cur t (0, 0))) (hm : Nat.min sLen dLen = m) (hn : cs.length = m * s)
    (hsrc : ∀ j v, cs[j]? = some v → w.cell? (a.add j) = some v) (hfit : o + cs.length ≤ cur.size) (h1 : ∀ v ∈ cs, v.oneCell' = true) :
    (Builtin.copy_ #[dT, sT] ty #[.slice (some ⟨g, o, none⟩) dLen dCap, .slice (some a) sLen sCap]).run P w =
      .ok (goInt m) (w.setRow g (cur.toList.take o ++ cs ++ cur.toList.drop (o + cs.length)).toArray) := by
  have hl := run_loadCells_list (P := P) w a cs hsrc
  have hst := run_storeCells_at P g o t cs 0 cur w hg (by simpa using hfit) h1
  cases hq : P.info? elem with
  | none => simp [hq] at hs
  | some i =>
    have hi : i.size = s := by simpa [hq] using hs
    simp [Builtin.copy_, run_underlying hu, Builtin.lenOf, Builtin.firstCells, sizeOf, typeInfo, hq, hi, hm, ← hn, hl, hst]
theorem wpList_copy_rows {w : World} {ops : Array Oper} {rest : List Oper} {o : Oper} {a : Act} {Q : Exit → Act → World → Prop} (hgd : o.guard = none) (d s : Operand) (dT sT : TypeId)
    (ho : o.op = .call { callee := .builtin .copy, args := #[d, s], argTypes := #[dT, sT] }) (elem : TypeId) (hu : P.underlying dT = some (.slice elem)) {z : Nat} (hsz : (P.info? elem).map (·.size) = some z)
    (g off dLen dCap : Nat) (ad : Addr) (sLen sCap : Nat) (hd : a.eval d = .slice (some ⟨g, off, none⟩) dLen dCap) (hs : a.eval s = .slice (some ad) sLen sCap)
    (cur : List Value) (t : TypeId) (hg : w.heap[g]? = some (.cells cur.toArray t (0, 0))) (m : Nat) (hm : Nat.min sLen dLen = m) (cs : List Value) (hn : cs.length = m * z)
    (hsrc : ∀ j v, cs[j]? = some v → w.cell? (ad.add j) = some v) (hfit : off + cs.length ≤ cur.length) (h1 : ∀ v ∈ cs, v.oneCell' = true) (B : Nat) (w0 : World) (hb : Below B w0 w) (hBg : B ≤ g)
    (h : ∀ w', Hid (w'.heap[g]? = some (.cells (cur.take off ++ cs ++ cur.drop (off + cs.length)).toArray t (0, 0))) → Below B w0 w' → wpList P ops Q rest (a.put o.dst (goInt m)) w') : wpList P ops Q (o :: rest) a w := by
  refine wpList_plain hgd fun K hK => ?_
  have hrun := run_copy_rows (P := P) w dT sT o.type elem g off dLen dCap ad sLen sCap z m cur.toArray t cs hu hsz hg hm hn hsrc (by simpa using hfit) h1
  unfold Oper.wp
  simp [execOp, ho, resolve, invoke, builtin, hd, hs, hrun, Result.andThen]
  refine hK _ _ (h _ ?_ (below_setRow hb hBg _))
  have := setRow_heap w g _ (cur.take off ++ (cs ++ cur.drop (off + cs.length))).toArray t _ hg
  simpa [Hid] using this
theorem step_copy_rows {w : World} {ops : Array Oper} {o : Oper} {a : Act} {K : Act → World → Prop} {Q : Exit → Act → World → Prop} {E : Prop} (hgd : o.guard = none) (d s : Operand) (dT sT : TypeId)
    (ho : o.op = .call { callee := .builtin .copy, args := #[d, s], argTypes := #[dT, sT] }) (elem : TypeId) (hu : P.underlying dT = some (.slice elem)) {z : Nat} (hsz : (P.info? elem).map (·.size) = some z)
    (g off dLen dCap : Nat) (ad : Addr) (sLen sCap : Nat) (hd : a.eval d = .slice (some ⟨g, off, none⟩) dLen dCap) (hs : a.eval s = .slice (some ad) sLen sCap)
    (cur : List Value) (t : TypeId) (hg : w.heap[g]? = some (.cells cur.toArray t (0, 0))) (m : Nat) (hm : Nat.min sLen dLen = m) (cs : List Value) (hn : cs.length = m * z)
    (hsrc : ∀ j v, cs[j]? = some v → w.cell? (ad.add j) = some v) (hfit : off + cs.length ≤ cur.length) (h1 : ∀ v ∈ cs, v.oneCell' = true) (B : Nat) (w0 : World) (hb : Below B w0 w) (hBg : B ≤ g)
    (h : ∀ w', Hid (w'.heap[g]? = some (.cells (cur.take off ++ cs ++ cur.drop (off + cs.length)).toArray t (0, 0))) → Below B w0 w' → K (a.put o.dst (goInt m)) w') :
    if Region.wanted o (yielded ops a.tmps) = true then Oper.wp P o a w K Q else E := by
  have hw : Region.wanted o (yielded ops a.tmps) = true := by simp [Region.wanted, hgd]
  rw [if_pos hw]
  have hrun := run_copy_rows (P := P) w dT sT o.type elem g off dLen dCap ad sLen sCap z m cur.toArray t cs hu hsz hg hm hn hsrc (by simpa using hfit) h1
  unfold Oper.wp
  simp [execOp, ho, resolve, invoke, builtin, hd, hs, hrun, Result.andThen]
  refine h _ ?_ (below_setRow hb hBg _)
  have := setRow_heap w g _ (cur.take off ++ (cs ++ cur.drop (off + cs.length))).toArray t _ hg
  simpa [Hid] using this
end
/-- 'x[l:]': one address, whether room is left or not. -/
theorem run_slice_tailR {P : Program} (t e : TypeId) {z : Value} {s bytes : Nat} (ht : P.underlying t = some (.slice e)) (hinfo : (P.info? e).map (fun i => (i.zero, i.size, i.bytes)) = some (some z, s, bytes))
    (b off n c l : Nat) (i : Int) (hi : i = l) (hh : l ≤ n) (hc : n ≤ c) :
    ∃ o', (n - l = 0 ∨ o' = off + l * s) ∧ ∀ W, (Instr.slice t (.slice (some ⟨b, off, none⟩) n c) (some (.int .i64 i)) none none).run P W = .ok (.slice (some ⟨b, o', none⟩) (n - l) (c - l)) W := by
  obtain ⟨ti, hti, hz, hsize, hb⟩ := info_parts hinfo
  have he : P.elem t = e := by simp [Program.elem, ht]
  refine ⟨if c = l then off else off + l * s, ?_, fun W => ?_⟩
  · by_cases h0 : c = l
    · exact .inl (by omega)
    · exact .inr (by rw [if_neg h0])
  · rw [run_slice_l W t (some ⟨b, off, none⟩) n c (by rw [he]; exact ht) .i64 i (by omega) (by omega)]
    subst hi
    have hsz : ∀ W, (sizeOf (P.elem t)).run P W = .ok s W := by intro W; rw [he]; simp [sizeOf, typeInfo, hti, hsize]
    rw [hsz]
    simp only [Result.andThen, sliced, Int.toNat_natCast]
    by_cases h0 : c = l
    · simp [h0]
    · simp only [if_neg h0, Option.map_some]
      rw [addr_add]

/-- A row known by its block is owned. -/
theorem own_of_block {w : World} {base g n cap : Nat} {t : TypeId} {s : Nat} {xs : List Value} (h : w.heap[g]? = some (.cells xs.toArray t (0, 0))) (hb : base ≤ g) (hs : xs.length = cap * s) (hn : n ≤ cap) (hm : cap ≤ maxLen) : w.ownsRow base t s (.slice (some ⟨g, 0, none⟩) n cap) n (xs.take (n * s)) := by
  refine ⟨?_, .inr ⟨g, cap, xs.toArray, rfl, hb, h, hn, hm, by simpa using hs, by simp⟩⟩
  rw [List.length_take, hs]
  have : n * s ≤ cap * s := Nat.mul_le_mul_right _ hn
  omega
theorem made_zero2 (m : Nat) : madeCells (Value.cells (.agg #[.int .i64 0, .int .i64 0])) (m * 2) = (rows R2.vs (List.replicate m (⟨0, 0⟩ : R2))).toArray := by
  apply Array.ext
  · rw [size_madeCells]; simp [rows_len R2.vs_len]
  · intro i h1 h2
    have hi : i < m * 2 := by rw [size_madeCells] at h1; exact h1
    have e1 : (madeCells (Value.cells (.agg #[.int .i64 0, .int .i64 0])) (m * 2))[i] = .int .i64 0 := by
      have hm : i % 2 = 0 ∨ i % 2 = 1 := by omega
      rcases hm with hm | hm <;> simp [madeCells, Value.cells, hm]
    have e2 : (rows R2.vs (List.replicate m (⟨0, 0⟩ : R2)))[i]? = some (.int .i64 0) := by
      have hq : i / 2 < m := by omega
      have hx : (List.replicate m (⟨0, 0⟩ : R2))[i / 2]? = some ⟨0, 0⟩ := by simp [hq]
      have hr := rows_at R2.vs_len hx (j := i % 2) (by omega)
      rw [show i / 2 * 2 + i % 2 = i by omega] at hr
      rw [hr]
      have hm : i % 2 = 0 ∨ i % 2 = 1 := by omega
      rcases hm with hm | hm <;> simp [R2.vs, hm]
    rw [e1]
    simp only [List.getElem_toArray]
    have := List.getElem?_eq_some_iff.1 e2
    exact this.2.symm
end Go.Proofs.Ytgcedfpjgdeakaa
