/- The law FnExactRunTagByMarkov returns true for every input, and each argument reads afterwards as before: the proof, part 2. No conditions. -/
import Derived.Test.YtcfkjigapnknnaaRunTagByMarkovZa
import Derived.StillTailTactics
/- Words for library functions on rows: the first place where a test holds; a function value that can be entered; an empty row; a row in which one record turns. Plain lemmas. -/
namespace Go.Proofs.Ytcfkjigapnknnaa
open Go.RowKit
set_option linter.all false

theorem cell_step {w w1 : World} {b o : Nat} {u : Value} (h : w.cell? ⟨b, o, none⟩ = some u) (hb : Below w.heap.size w w1) : w1.cell? ⟨b, o, none⟩ = some u :=
  (hb.cell (p := ⟨b, o, none⟩) (World.block_lt_of_cell? w _ h)).trans h
theorem alloc2 {wr w1 : World} {x y : Value} {t : TypeId} (h : wr.alloc (.cells #[x, y] t) = w1) :
    w1.cell? ⟨wr.heap.size, 0, none⟩ = some x ∧ w1.cell? ⟨wr.heap.size, 1, none⟩ = some y ∧ Below wr.heap.size wr w1 := by
  subst h
  exact ⟨by simp [go_sem], by simp [go_sem], laid_below _ _⟩
theorem alloc3 {wr w1 : World} {x y z : Value} {t : TypeId} (h : wr.alloc (.cells #[x, y, z] t) = w1) :
    w1.cell? ⟨wr.heap.size, 0, none⟩ = some x ∧ w1.cell? ⟨wr.heap.size, 1, none⟩ = some y ∧ w1.cell? ⟨wr.heap.size, 2, none⟩ = some z ∧ Below wr.heap.size wr w1 := by
  subst h
  exact ⟨by simp [go_sem], by simp [go_sem], by simp [go_sem], laid_below _ _⟩
theorem alloc4 {wr w1 : World} {x y z u : Value} {t : TypeId} (h : wr.alloc (.cells #[x, y, z, u] t) = w1) :
    w1.cell? ⟨wr.heap.size, 0, none⟩ = some x ∧ w1.cell? ⟨wr.heap.size, 1, none⟩ = some y ∧ w1.cell? ⟨wr.heap.size, 2, none⟩ = some z ∧ w1.cell? ⟨wr.heap.size, 3, none⟩ = some u ∧ Below wr.heap.size wr w1 := by
  subst h
  exact ⟨by simp [go_sem], by simp [go_sem], by simp [go_sem], by simp [go_sem], laid_below _ _⟩
theorem drop_at {α : Type} {xs : List α} {k : Nat} {x : α} (h : xs[k]? = some x) : xs.drop k = x :: xs.drop (k + 1) := by
  obtain ⟨hk, hx⟩ := List.getElem?_eq_some_iff.1 h
  rw [List.drop_eq_getElem_cons hk, hx]
theorem below_of_drew {B : Nat} {w w' : World} (h : Below B w.drew w') : Below B w w' := ⟨h.os, h.tape, h.output, h.size, h.block⟩
theorem below_drew_at {w w' : World} (h : Below w.drew.heap.size w.drew w') : Below w.heap.size w w' := ⟨h.os, h.tape, h.output, h.size, h.block⟩
theorem below_of_drewN {B n : Nat} {w w' : World} (h : Below B (w.drewN n) w') : Below B w w' := ⟨h.os, h.tape, h.output, h.size, h.block⟩

/-- A function that can be entered. -/
theorem enters_of' {P : Program} {f : FuncId} {fn : Func} {c : Code} (hf : P.funcs[f]? = some fn) (hname : (fn.name == "runtime.NumGoroutine") = false) (hb : fn.body = some c) (args : Array Value) (W : World) : (callFunc f args).run P W = .ok (.enter f args) W := by
  have h1 : fn.name ≠ "runtime.NumGoroutine" := by simpa using hname
  simp [callFunc, hf, h1, hb, mark]

/-- 's == nil' at a slice. -/
theorem run_nil_some {P : Program} {t e : TypeId} (ht : P.underlying t = some (.slice e)) (a : Addr) (n c : Nat) (w : World) : (binOp .eql t (.slice (some a) n c) (.slice none 0 0)).run P w = .ok (.bool false) w := by
  have h : ∀ d : Nat, (Op.equalIn (d + 1) t (.slice (some a) n c) (.slice none 0 0)).run P w = .ok false w := fun d => by simp [Op.equalIn, run_underlying ht]
  simp only [binOp]
  simp [Op.equal, Op.maxDepth, h 9999]
theorem run_nil_none {P : Program} {t e : TypeId} (ht : P.underlying t = some (.slice e)) (w : World) : (binOp .eql t (.slice none 0 0) (.slice none 0 0)).run P w = .ok (.bool true) w := by
  have h : ∀ d : Nat, (Op.equalIn (d + 1) t (.slice none 0 0) (.slice none 0 0)).run P w = .ok true w := fun d => by simp [Op.equalIn, run_underlying ht]
  simp only [binOp]
  simp [Op.equal, Op.maxDepth, h 9999]

/-- The first place where p holds, or -1. -/
def findI {α : Type} (p : α → Bool) (xs : List α) : Int := match xs.findIdx? p with | some k => k | none => -1
theorem findI_none {α : Type} {p : α → Bool} {xs : List α} (h : ∀ (j : Nat) x, xs[j]? = some x → p x = false) : findI p xs = -1 := by
  have : xs.findIdx? p = none := by
    rw [List.findIdx?_eq_none_iff]
    intro x hx
    obtain ⟨j, hj⟩ := List.getElem?_of_mem hx
    exact h j x hj
  simp [findI, this]
theorem findI_some {α : Type} {p : α → Bool} {xs : List α} {k : Nat} {x : α} (h : ∀ j y, j < k → xs[j]? = some y → p y = false) (hx : xs[k]? = some x) (hp : p x = true) : findI p xs = k := by
  have : xs.findIdx? p = some k := by
    obtain ⟨hk, e⟩ := List.getElem?_eq_some_iff.1 hx
    rw [List.findIdx?_eq_some_iff_getElem]
    refine ⟨hk, by rw [e]; exact hp, fun j hj => ?_⟩
    rw [h j _ hj (List.getElem?_eq_getElem (by omega))]
    simp
  simp [findI, this]
theorem findI_any {α : Type} (p : α → Bool) (xs : List α) : decide (0 ≤ findI p xs) = xs.any p := by
  unfold findI
  cases h : xs.findIdx? p with
  | none =>
    rw [List.findIdx?_eq_none_iff] at h
    have : xs.any p = false := by rw [List.any_eq_false]; intro x hx; simp [h x hx]
    rw [this]; rfl
  | some k =>
    rw [List.findIdx?_eq_some_iff_getElem] at h
    obtain ⟨hk, hp, _⟩ := h
    have : xs.any p = true := List.any_eq_true.2 ⟨_, List.getElem_mem hk, hp⟩
    rw [this]; simp

theorem own_empty (w : World) (e : TypeId) (s : Nat) : (w.alloc (.cells #[] e)).ownsRow w.heap.size e s (.slice (some ⟨w.heap.size, 0, none⟩) 0 0) 0 [] :=
  ⟨by simp, .inr ⟨w.heap.size, 0, #[], rfl, Nat.le_refl _, heap_alloc_new _ _, Nat.le_refl _, Nat.zero_le _, by simp, by simp⟩⟩
/-- A row that was just laid. -/
theorem own_laid (w : World) (e : TypeId) (s n : Nat) (cs : Array Value) (h : cs.size = n * s) (hm : n ≤ maxLen) : (w.alloc (.cells cs e)).ownsRow w.heap.size e s (.slice (some ⟨w.heap.size, 0, none⟩) n n) n cs.toList :=
  ⟨by simp [h], .inr ⟨w.heap.size, n, cs, rfl, Nat.le_refl _, heap_alloc_new _ _, Nat.le_refl _, hm, h, by rw [List.take_of_length_le (by simp [h])]⟩⟩
theorem Src.args {s n c : Nat} {w : World} {A : Option Addr} {xs : List Value} (h : Src s w (.slice A n c) n xs) : Args s w A n xs := by
  refine ⟨h.1, ?_⟩
  rcases h.2 with ⟨_, h0⟩ | ⟨b, off, c', hv, hs⟩
  · exact .inl h0
  · injection hv with h1 h2 h3; exact .inr ⟨b, off, h1, hs⟩
/-- Which part it is, as a source. -/
theorem src_part {α : Type} {f : α → List Value} {s : Nat} (hs : ∀ x, (f x).length = s) {w : World} {b off o' : Nat} {xs : List α} (h : Sl w b off (rows f xs)) (i m c : Nat) (ho : m = 0 ∨ o' = off + i * s) (hl : i + m ≤ xs.length) : Src s w (.slice (some ⟨b, o', none⟩) m c) m (rows f ((xs.drop i).take m)) := by
  have hlen : (rows f ((xs.drop i).take m)).length = m * s := by rw [rows_len hs, List.length_take, List.length_drop, Nat.min_eq_left (by omega)]
  rcases ho with h0 | rfl
  · subst h0
    refine ⟨hlen, .inr ⟨b, o', c, rfl, h.1, ?_⟩⟩
    intro j u hu
    simp [rows] at hu
  · exact Src.of_sl (h.part hs i m) hlen
/-- One cell of one record turns. -/
theorem rows_set {α : Type} {f : α → List Value} {s : Nat} (hs : ∀ x, (f x).length = s) {xs : List α} {k : Nat} {x : α} (y : α) {j : Nat} {u : Value} (hx : xs[k]? = some x) (hj : j < s) (hy : f y = (f x).set j u) : (rows f xs).set (k * s + j) u = rows f (xs.set k y) := by
  obtain ⟨hk, e⟩ := List.getElem?_eq_some_iff.1 hx
  have l1 : (rows f (xs.take k)).length = k * s := by rw [rows_len hs, List.length_take, Nat.min_eq_left (by omega)]
  have e1 : rows f xs = rows f (xs.take k) ++ (f x ++ rows f (xs.drop (k + 1))) := by
    conv => lhs; rw [← List.take_append_drop k xs, List.drop_eq_getElem_cons hk, e]
    simp [rows]
  have e2 : xs.set k y = xs.take k ++ y :: xs.drop (k + 1) := List.set_eq_take_append_cons_drop.trans (by rw [if_pos hk])
  rw [e1, e2, List.set_append_right _ _ (by omega), l1, Nat.add_sub_cancel_left, List.set_append_left _ _ (by rw [hs]; exact hj), ← hy]
  simp [rows]
section
variable {P : Program} {w : World}
theorem step_appx {ops : Array Oper} {o : Oper} {a : Act} {K : Act → World → Prop} {Q : Exit → Act → World → Prop} {E : Prop} (hgd : o.guard = none) (s x : Operand) (t : TypeId)
    (ho : o.op = .call { callee := .builtin .append, args := #[s, x], argTypes := #[t, t] })
    {e : TypeId} {z : Value} {size bytes : Nat} (ht : P.underlying t = some (.slice e)) (hinfo : (P.info? e).map (fun i => (i.zero, i.size, i.bytes)) = some (some z, size, bytes)) (hzs : z.cells.size = size) (hsz : 0 < size)
    (base : Nat) {v : Value} {n : Nat} {xs : List Value} (hown : w.ownsRow base e size v n xs) (hbase : base ≤ w.heap.size) (hs : a.eval s = v)
    {u : Value} {m : Nat} {ys : List Value} (hsrc : Src size w u m ys) (hx : a.eval x = u) (h1 : ∀ u ∈ ys, u.oneCell' = true) (h63 : n + m ≤ maxLen) (hbytes : (n + m) * bytes ≤ 140737488355328)
    (h : ∀ v' w', w'.ownsRow base e size v' (n + m) (xs ++ ys) → w.grownBy w' v.ownBlock → (v' = .slice none 0 0 → v = .slice none 0 0 ∧ m = 0) → K (a.put o.dst v') w') :
    if Region.wanted o (yielded ops a.tmps) = true then Oper.wp P o a w K Q else E := by
  have hw : Region.wanted o (yielded ops a.tmps) = true := by simp [Region.wanted, hgd]
  rw [if_pos hw]
  exact wp_appx s x t ho ht hinfo hzs hsz base hown hbase hs hsrc hx h1 h63 hbytes h
end
end Go.Proofs.Ytcfkjigapnknnaa

/- Contracts of the laws' helpers on []int64: copy, compare, mark, look at the marks. For slices of at most 1048576 elements. -/
namespace Go.Proofs.Ytcfkjigapnknnaa
open Go.RowKit

theorem infoInt64S : (Try.prog.info? 2).map (fun i => (i.zero, i.size, i.bytes)) = some (some (Value.int .i64 0), 1, 8) := by kernel_rfl

set_option maxHeartbeats 400000 in
theorem toInt64S_any (A : Option Addr) (n c : Nat) (xs : List Int) (w : World) (ha : Arg w A n (xs.map (Value.int .i64))) (hn : n ≤ 1048576) :
    Calls Try.prog 11 #[.slice A n c] w fun e w' => e = .returned (.slice (some ⟨w.heap.size, 0, none⟩) n n) ∧
      w'.ownsRow w.heap.size 2 1 (.slice (some ⟨w.heap.size, 0, none⟩) n n) n (xs.map (Value.int .i64)) ∧ Below w.heap.size w w' := by
  have hmk := fun W => run_make_row' (P := Try.prog) 25 2 (Value.int .i64 0) 8 Try.underlying25 infoInt64S rfl .i64 .i64 n (by omega) (by omega) W
  have hrow0 := World.rowIs_made w (Value.int .i64 0) n 2
  have hB0 : Below w.heap.size w (w.alloc (.cells (madeCells #[Value.int .i64 0] n) 2)) := (Below.refl _ _).alloc (Nat.le_refl _) _
  go_enter Try.func11, Try.ntmps11
  go_wp2
  clear hmk
  go_loopw [4] (fun i wr => ∃ k : Nat, k ≤ n ∧ i = .int .i64 k ∧ wr.rowIs w.heap.size 2 n (fun j => if j < k then (xs.map (Value.int .i64)).getD j undef else (Value.int .i64 0)) ∧ Below w.heap.size w wr) (fun i _ => n - (intOf i).toNat)
  case atStart => exact ⟨0, Nat.zero_le _, rfl, hrow0.congr (fun i _ => by simp), hB0⟩
  case round =>
    obtain ⟨k, hk, rfl, hrow, hB⟩ := hrel
    clear hrow0 hB0
    by_cases hlt : k < n
    · obtain ⟨b, off, rfl, hs⟩ := ha.sl hlt
      obtain ⟨x, HX, hx⟩ := map_at (Value.int .i64) xs (k := k) (by have := ha.1; simp at this; omega)
      have hca := (hs.below' hB).at hx
      have hco : wr.cell? ⟨w.heap.size, k, none⟩ = some (Value.int .i64 0) := by simpa using hrow.cell hlt
      have hfo := hrow.frozen k
      have HR := Lib.hid (hrow.set k ((Value.int .i64) x))
      have HB := Lib.hid (hB.setCell (p := ⟨w.heap.size, k, none⟩) (Nat.le_refl _) ((Value.int .i64) x))
      clear hx hrow hB ha hs
      go_wp2
      go_roundw
      case rel =>
        refine ⟨k + 1, by omega, by go_num, HR.out.congr (fun i hi => ?_), HB.out⟩
        exact upd_at ((Value.int .i64)) xs k i x HX.out _
      case measure => simp [intOf]; omega
    · go_wp2
      go_ret
      have hlen := ha.1
      refine ⟨rfl, own_of_rowIs hrow (Nat.le_refl _) (by unfold maxLen; omega) hlen (fun j u hu => ?_), hB⟩
      have hj : j < n := by rw [← hlen]; exact (List.getElem?_eq_some_iff.1 hu).1
      rw [if_pos (by omega), List.getD_eq_getElem?_getD, hu]; rfl

set_option maxHeartbeats 400000 in
theorem eqInt64S_any (A B : Option Addr) (n m c d : Nat) (xs ys : List Int) (w : World) (ha : Arg w A n (xs.map (Value.int .i64))) (hb : Arg w B m (ys.map (Value.int .i64))) (hn : n ≤ 4194304) (hm : m ≤ 4194304) :
    Calls Try.prog 15 #[.slice A n c, .slice B m d] w fun e w' => e = .returned (.bool (decide (xs = ys))) ∧ ∃ q, w' = w.drewN q := by
  have HA := Lib.hid ha.1
  have HB := Lib.hid hb.1
  by_cases hnm : n = m
  · subst hnm
    go_enter Try.func15, Try.ntmps15
    go_wp2
    go_loopw [5] (fun i wr => ∃ k q : Nat, k ≤ n ∧ i = .int .i64 k ∧ wr = w.drewN q ∧ Hid (xs.take k = ys.take k)) (fun i _ => n - (intOf i).toNat)
    case atStart => exact ⟨0, 0, Nat.zero_le _, rfl, rfl, rfl⟩
    case round =>
      obtain ⟨k, q, hk, rfl, rfl, HR⟩ := hrel
      by_cases hlt : k < n
      · obtain ⟨b1, o1, rfl, hs1⟩ := ha.sl hlt
        obtain ⟨b2, o2, rfl, hs2⟩ := hb.sl hlt
        obtain ⟨x, HX, hx⟩ := map_at (Value.int .i64) xs (k := k) (by have := HA.out; simp at this; omega)
        obtain ⟨y, HY, hy⟩ := map_at (Value.int .i64) ys (k := k) (by have := HB.out; simp at this; omega)
        have hca := hs1.at hx
        have hcb := hs2.at hy
        clear hx hy hs1 hs2 ha hb
        by_cases e : x = y
        · subst e; have hz : (x != x) = false := by simp
          go_wp2
          go_quiet (fail)
          go_wp2
          go_roundw
          case rel => exact ⟨k + 1, _, by omega, by go_num, rfl, take_succ_eq HR.out HX.out HY.out rfl⟩
          case measure => simp [intOf]; omega
        · have hz : (x != y) = true := by simpa using e
          have HE := Lib.hid e
          clear e
          go_wp2
          go_quiet (fail)
          go_wp2
          go_ret
          exact ⟨ret_bool (by simp [ne_of_at HX.out HY.out HE.out]), by first | exact ⟨_, rfl⟩ | exact ⟨_, World.drewN_drewN _ _ _⟩⟩
      · go_wp2
        go_ret
        refine ⟨ret_bool ?_, _, rfl⟩
        have h1 := HR.out
        have h2 := HA.out
        have h3 := HB.out
        simp only [List.length_map] at h2 h3
        rw [List.take_of_length_le (by omega), List.take_of_length_le (by omega)] at h1
        simp [h1]
  · have hne : ((n : Int) != (m : Int)) = true := by simp; omega
    go_enter Try.func15, Try.ntmps15
    go_wp2
    go_ret
    refine ⟨ret_bool ?_, 0, rfl⟩
    have h2 := HA.out
    have h3 := HB.out
    simp only [List.length_map] at h2 h3
    symm
    apply decide_eq_false
    rintro rfl
    omega

def mkInt64S (k : Int) : Value := .int .i64 k

set_option maxHeartbeats 400000 in
theorem markInt64S_any (base : Nat) (v : Value) (n : Nat) (k0 : Int) (xs : List Value) (w : World) (ho : w.ownsRow base 2 1 v n xs) (hk0 : 0 ≤ k0) (hk1 : k0 ≤ 1099511627776) (hn : n ≤ 4194304) :
    Calls Try.prog 17 #[v, .int .i64 k0] w fun e w' => e = .returned (.int .i64 (k0 + n)) ∧ w'.ownsRow base 2 1 v n (marks mkInt64S k0 n) ∧ w.grownBy w' v.ownBlock := by
  have HL : Hid (xs.length = n) := by have := ho.1; unfold Hid; omega
  rcases ho.2 with ⟨rfl, rfl⟩ | ⟨g, cap, cur, rfl, hbg, hh, hnc, hcm, hcs, htk⟩
  · go_enter Try.func17, Try.ntmps17
    go_wp2
    refine wp_loop_rounds 1 ?_
    rw [rounds_succ]
    go_wp2
    go_ret
    exact ⟨by simp, by simpa [marks] using World.ownsRow_nil _ _ _ _, World.grownBy.refl _ _⟩
  · clear hh hcs htk
    go_enter Try.func17, Try.ntmps17
    go_wp2
    go_loopw [1, 5] (fun kk i wr => ∃ k : Nat, k ≤ n ∧ i = .int .i64 k ∧ kk = .int .i64 (k0 + k) ∧ wr.ownsRow base 2 1 (.slice (some ⟨g, 0, none⟩) n cap) n (marks mkInt64S k0 k ++ xs.drop k) ∧ w.grownBy wr (some g)) (fun _ i _ => n - (intOf i).toNat)
    case atStart => exact ⟨0, Nat.zero_le _, rfl, by simp, by simpa [marks] using ho, World.grownBy.refl _ _⟩
    case round =>
      obtain ⟨k, hk, rfl, rfl, hown, hgr⟩ := hrel
      clear ho
      by_cases hlt : k < n
      · have hc : wr.cell? ⟨g, k, none⟩ = some (xs[k]'(by have := HL.out; omega)) := by
          rw [hown.cellAt k (by omega), List.getElem?_append_right (by simp [length_marks]), length_marks, Nat.sub_self, List.getElem?_drop]
          simp
        have hf := hown.frozenAt k
        have HS := Lib.hid (hown.stored k (mkInt64S (k0 + k)))
        generalize (xs[k]'_) = x at hc
        clear hown
        go_wp2
        go_roundw
        case rel => exact ⟨k + 1, by omega, by go_num, by go_num, by have h1 := HS.out.1; rw [marks_set _ _ _ _ (by have := HL.out; omega)] at h1; exact h1, hgr.trans HS.out.2⟩
        case measure => simp [intOf]; omega
      · go_wp2
        go_ret
        obtain rfl : k = n := by omega
        refine ⟨rfl, ?_, hgr⟩
        rw [List.drop_of_length_le (by have := HL.out; omega), List.append_nil] at hown
        exact hown

set_option maxHeartbeats 400000 in
theorem heldInt64S_any (A : Option Addr) (n c : Nat) (k0 : Int) (w : World) (ha : Arg w A n (marks mkInt64S k0 n)) (hk0 : 0 ≤ k0) (hk1 : k0 ≤ 1099511627776) (hn : n ≤ 4194304) :
    Calls Try.prog 44 #[.slice A n c, .int .i64 k0] w fun e w' => e = .returned (.int .i64 (k0 + n)) ∧ w = w' := by
  go_enter Try.func44, Try.ntmps44
  go_wp2
  go_loop [1, 5] (fun kk i => ∃ k : Nat, k ≤ n ∧ i = .int .i64 k ∧ kk = .int .i64 (k0 + k)) (fun _ i => n - (intOf i).toNat)
  case atStart => exact ⟨0, Nat.zero_le _, rfl, by simp⟩
  case round =>
    obtain ⟨k, hk, rfl, rfl⟩ := hrel
    by_cases hlt : k < n
    · obtain ⟨b, off, rfl, hs⟩ := ha.sl hlt
      have hca := hs.at (marks_at mkInt64S k0 n k hlt)
      simp only [mkInt64S] at hca
      clear hs ha
      go_wp2
      go_round
      case rel => exact ⟨k + 1, by omega, by go_num, by go_num⟩
      case measure => simp [intOf]; omega
    · go_wp2
      go_ret
      obtain rfl : k = n := by omega
      exact ⟨rfl, rfl⟩

end Go.Proofs.Ytcfkjigapnknnaa

/- Contracts of the laws' helpers on []int64, in one form: copy, compare, size, mark, look at the marks. -/
namespace Go.Proofs.Ytcfkjigapnknnaa
open Go.RowKit
set_option linter.all false

theorem inToInt64S (A : Option Addr) (n c : Nat) (t : List Int) (w : World) (ha : Args 1 w A n (rows oneI t)) (hn : n ≤ 1048576) :
    Calls Try.prog 11 #[.slice A n c] w fun e w' => e = .returned (.slice (some ⟨w.heap.size, 0, none⟩) n n) ∧ w'.ownsRow w.heap.size 2 1 (.slice (some ⟨w.heap.size, 0, none⟩) n n) n (rows oneI t) ∧ Below w.heap.size w w' := by
  rw [rows_oneI] at ha ⊢; exact toInt64S_any A n c t w (arg_args ha) hn

theorem inEqInt64S (A B : Option Addr) (n m c d : Nat) (x y : List Int) (v : Bool) (hv : decide (x = y) = v) (w : World) (ha : Args 1 w A n (rows oneI x)) (hb : Args 1 w B m (rows oneI y)) (hn : n ≤ 4194304) (hm : m ≤ 4194304) :
    Calls Try.prog 15 #[.slice A n c, .slice B m d] w fun e w' => e = .returned (.bool v) ∧ Below w.heap.size w w' := by
  rw [rows_oneI] at ha hb
  have h := eqInt64S_any A B n m c d x y w (arg_args ha) (arg_args hb) hn hm
  rw [hv] at h
  exact h.mono fun e w' ⟨h1, q, h2⟩ => ⟨h1, quiet_below h2⟩

theorem inSzInt64S (A : Option Addr) (n c : Nat) (left : Int) (w : World) (h0 : 0 ≤ left) (h1 : left ≤ 1048576) (hn : n ≤ 9223372036854775807) :
    Calls Try.prog 67 #[.slice A n c, .int .i64 left] w fun e w' => (∃ z : Int, e = .returned (.int .i64 z) ∧ SzOut n left z) ∧ w = w' := by
  by_cases h : (n : Int) ≤ left
  · have h' : ¬ left - (n : Int) < 0 := by omega
    go_enter Try.func67, Try.ntmps67
    go_wp2
    go_ret
    exact ⟨⟨_, rfl, .inl ⟨h, rfl⟩⟩, rfl⟩
  · have h' : left - (n : Int) < 0 := by omega
    go_enter Try.func67, Try.ntmps67
    go_wp2
    go_ret
    exact ⟨⟨_, rfl, .inr ⟨by omega, rfl⟩⟩, rfl⟩

theorem inMarkInt64S (base : Nat) (v : Value) (n : Nat) (k0 : Int) (xs : List Value) (w : World) (ho : w.ownsRow base 2 1 v n xs) (hk0 : 0 ≤ k0) (hk1 : k0 ≤ 1099511627776) (hn : n ≤ 4194304) :
    Calls Try.prog 17 #[v, .int .i64 k0] w fun e w' => e = .returned (.int .i64 (k0 + (n * 1 : Nat))) ∧ w'.ownsRow base 2 1 v n (marks mkInt64S k0 (n * 1)) ∧ w.grownBy w' v.ownBlock := by
  rw [Nat.mul_one]
  exact markInt64S_any base v n k0 xs w ho hk0 hk1 hn

theorem inHeldInt64S (A : Option Addr) (n c : Nat) (k0 : Int) (w : World) (ha : Args 1 w A n (marks mkInt64S k0 (n * 1))) (hk0 : 0 ≤ k0) (hk1 : k0 ≤ 1099511627776) (hn : n ≤ 4194304) :
    Calls Try.prog 44 #[.slice A n c, .int .i64 k0] w fun e w' => e = .returned (.int .i64 (k0 + (n * 1 : Nat))) ∧ w = w' := by
  rw [Nat.mul_one] at ha ⊢
  exact heldInt64S_any A n c k0 w (arg_args ha) hk0 hk1 hn

end Go.Proofs.Ytcfkjigapnknnaa

/- The marks as numbers. -/
namespace Go.Proofs.Ytcfkjigapnknnaa
set_option linter.all false
theorem rows_runI (k : Int) (n : Nat) : rows oneI (runI k n) = marks mkInt64S k (n * 1) := by
  rw [rows_oneI, Nat.mul_one]
  simp only [runI, marks, mkInt64S, List.map_map]
  rfl
end Go.Proofs.Ytcfkjigapnknnaa

/- Small functions on numbers and lists of numbers: within, l00In, size, allWithin, rising, l00Rises. -/
namespace Go.Proofs.Ytcfkjigapnknnaa
open Go.RowKit
set_option linter.all false

def inB (n lo hi : Int) : Bool := decide (lo ≤ n) && decide (n ≤ hi)
theorem inB_iff (n lo hi : Int) : inB n lo hi = true ↔ lo ≤ n ∧ n ≤ hi := by simp [inB]
theorem inB_false (n lo hi : Int) : inB n lo hi = false ↔ n < lo ∨ hi < n := by simp [inB]; omega

theorem within_any (n lo hi : Int) (w : World) : Calls Try.prog 99 #[.int .i64 n, .int .i64 lo, .int .i64 hi] w fun e w' => e = .returned (.bool (inB n lo hi)) ∧ w = w' := by
  unfold inB
  by_cases h1 : lo ≤ n
  · by_cases h2 : n ≤ hi
    · go_enter Try.func99, Try.ntmps99
      go_wp2
      go_ret
      exact ⟨ret_bool (by simp [h1, h2]), rfl⟩
    · go_enter Try.func99, Try.ntmps99
      go_wp2
      go_ret
      exact ⟨ret_bool (by simp [h1, h2]), rfl⟩
  · go_enter Try.func99, Try.ntmps99
    go_wp2
    go_ret
    exact ⟨ret_bool (by simp; omega), rfl⟩

theorem within_is (n lo hi : Int) (v : Bool) (h : inB n lo hi = v) (w : World) : Calls Try.prog 99 #[.int .i64 n, .int .i64 lo, .int .i64 hi] w fun e w' => e = .returned (.bool v) ∧ w = w' := by
  subst h; exact within_any n lo hi w

theorem l00In_any (n lo hi : Int) (w : World) : Calls Try.prog 93 #[.int .i64 n, .int .i64 lo, .int .i64 hi] w fun e w' => e = .returned (.bool (inB n lo hi)) ∧ w = w' := by
  unfold inB
  by_cases h1 : lo ≤ n
  · by_cases h2 : n ≤ hi
    all_goals
      go_enter Try.func93, Try.ntmps93
      go_wp2
      go_ret
      exact ⟨ret_bool (by simp [h1, h2]), rfl⟩
  · go_enter Try.func93, Try.ntmps93
    go_wp2
    go_ret
    exact ⟨ret_bool (by simp; omega), rfl⟩

theorem getD_at {α : Type} {xs : List α} {k : Nat} {x d : α} (h : xs[k]? = some x) : xs.getD k d = x := by rw [List.getD_eq_getElem?_getD, h]; rfl
theorem getD_mem {xs : List Int} {k : Nat} {x : Int} (h : xs[k]? = some x) : x ∈ xs := List.mem_of_getElem? h

/-- Strictly rising. -/
def upB (xs : List Int) : Bool := (List.range (xs.length - 1)).all fun j => decide (xs.getD j 0 < xs.getD (j + 1) 0)
theorem upB_iff (xs : List Int) : upB xs = true ↔ ∀ j, j + 1 < xs.length → xs.getD j 0 < xs.getD (j + 1) 0 := by
  unfold upB
  rw [List.all_eq_true]
  constructor
  · intro h j hj
    simpa using h j (by simp; omega)
  · intro h j hj
    simpa using h j (by simp at hj; omega)
theorem upB_no {xs : List Int} {j : Nat} {x y : Int} (hx : xs[j]? = some x) (hy : xs[j + 1]? = some y) (h : y ≤ x) : upB xs = false := by
  rw [Bool.eq_false_iff]
  intro hu
  have := (upB_iff xs).1 hu j ((List.getElem?_eq_some_iff.1 hy).1)
  rw [getD_at hx, getD_at hy] at this
  omega
theorem all_no {xs : List Int} {p : Int → Bool} {j : Nat} {x : Int} (hx : xs[j]? = some x) (h : p x = false) : xs.all p = false := by
  rw [Bool.eq_false_iff]
  intro hu
  have := List.all_eq_true.1 hu x (getD_mem hx)
  rw [h] at this; cases this

set_option maxHeartbeats 400000 in
theorem rising_any (b off n c : Nat) (xs : List Int) (w : World) (hs : Sl w b off (xs.map (.int .i64))) (hl : xs.length = n) (hn : n ≤ 4194304) :
    Calls Try.prog 128 #[.slice (some ⟨b, off, none⟩) n c] w fun e w' => e = .returned (.bool (upB xs)) ∧ ∃ q, w' = w.drewN q := by
  have HL := Lib.hid hl; clear hl
  go_enter Try.func128, Try.ntmps128
  go_wp2
  go_loopw [3] (fun i wr => ∃ k q : Nat, k ≤ n ∧ i = .int .i64 (k + 1 : Nat) ∧ wr = w.drewN q ∧ Hid (∀ j, j < k → j + 1 < n → xs.getD j 0 < xs.getD (j + 1) 0)) (fun i _ => n - (intOf i).toNat)
  case atStart => exact ⟨0, 0, Nat.zero_le _, rfl, rfl, by intro j hj; omega⟩
  case round =>
    obtain ⟨k, q, hk, rfl, rfl, HR⟩ := hrel
    by_cases hlt : k + 1 < n
    · obtain ⟨x, HX, hx⟩ := map_at (Value.int .i64) xs (k := k) (by have := HL.out; omega)
      obtain ⟨y, HY, hy⟩ := map_at (Value.int .i64) xs (k := k + 1) (by have := HL.out; omega)
      have hca := hs.at hx
      have hcb := hs.at hy
      clear hx hy hs
      have e0 : (((k + 1 : Nat) : Int) - 1).toNat = k := by omega
      by_cases e : x < y
      · go_wp2
        go_quiet (fail)
        go_wp2
        go_roundw
        case rel => exact ⟨k + 1, _, by omega, by go_num, rfl, by
          intro j hj hjn
          by_cases ej : j = k
          · subst ej; rw [getD_at HX.out, getD_at HY.out]; exact e
          · exact HR.out j (by omega) hjn⟩
        case measure => simp [intOf]; omega
      · have e' : y ≤ x := by omega
        go_wp2
        go_quiet (fail)
        go_wp2
        go_ret
        exact ⟨ret_bool (upB_no HX.out HY.out (by omega)).symm, by first | exact ⟨_, rfl⟩ | exact ⟨_, World.drewN_drewN _ _ _⟩⟩
    · go_wp2
      go_ret
      refine ⟨ret_bool ?_, _, rfl⟩
      symm
      rw [upB_iff]
      have := HL.out
      exact fun j hj => HR.out j (by omega) (by omega)

theorem l00In_is (n lo hi : Int) (v : Bool) (h : inB n lo hi = v) (w : World) : Calls Try.prog 93 #[.int .i64 n, .int .i64 lo, .int .i64 hi] w fun e w' => e = .returned (.bool v) ∧ w = w' := by
  subst h; exact l00In_any n lo hi w

/-- In bounds and strictly rising. -/
def risesB (xs : List Int) (lo hi : Int) : Bool := xs.all (inB · lo hi) && upB xs

set_option maxHeartbeats 400000 in
theorem l00Rises_any (b off n c : Nat) (xs : List Int) (lo hi : Int) (w : World) (hs : Sl w b off (xs.map (.int .i64))) (hl : xs.length = n) (hn : n ≤ 4194304) :
    Calls Try.prog 121 #[.slice (some ⟨b, off, none⟩) n c, .int .i64 lo, .int .i64 hi] w fun e w' => e = .returned (.bool (risesB xs lo hi)) ∧ ∃ q, w' = w.drewN q := by
  have HL := Lib.hid hl; clear hl
  go_enter Try.func121, Try.ntmps121
  go_wp2
  go_loopw [7] (fun i wr => ∃ k q : Nat, k ≤ n ∧ i = .int .i64 k ∧ wr = w.drewN q ∧ Hid ((∀ j x, j < k → xs[j]? = some x → inB x lo hi = true) ∧ ∀ j, j + 1 < k → xs.getD j 0 < xs.getD (j + 1) 0)) (fun i _ => n - (intOf i).toNat)
  case atStart => exact ⟨0, 0, Nat.zero_le _, rfl, rfl, by intro j x hj; omega, by intro j hj; omega⟩
  case round =>
    obtain ⟨k, q, hk, rfl, rfl, HR⟩ := hrel
    by_cases hlt : k < n
    · obtain ⟨y, HY, hy⟩ := map_at (Value.int .i64) xs (k := k) (by have := HL.out; omega)
      have hcb := hs.at hy
      clear hy
      by_cases hin : inB y lo hi = true
      · have HI := Lib.hid hin
        clear hin
        rcases Nat.eq_zero_or_pos k with h0 | h0
        · subst h0
          have hcb0 : w.cell? ⟨b, off, none⟩ = some (.int .i64 y) := by simpa using hcb
          go_wp2
          go_quiet ((go_at_call 93; exact quiet_eq2 (l00In_is y lo hi true HI.out _)))
          go_wp2
          go_roundw
          case rel => exact ⟨1, _, by omega, by go_num, rfl, by
            refine ⟨fun j x hj hx => ?_, fun j hj => by omega⟩
            obtain rfl : j = 0 := by omega
            have h2 := HY.out
            rw [hx] at h2; injection h2 with h2; subst h2; exact HI.out⟩
          case measure => simp [intOf]; omega
        · obtain ⟨m, rfl⟩ : ∃ m, k = m + 1 := ⟨k - 1, by omega⟩
          obtain ⟨x, HX, hx⟩ := map_at (Value.int .i64) xs (k := m) (by have := HL.out; omega)
          have hca := hs.at hx
          clear hx hs
          have e0 : (((m + 1 : Nat) : Int) - 1).toNat = m := by omega
          by_cases e : x < y
          · go_wp2
            go_quiet ((go_at_call 93; exact quiet_eq2 (l00In_is y lo hi true HI.out _)))
            go_wp2
            go_roundw
            case rel => exact ⟨m + 1 + 1, _, by omega, by go_num, rfl, by
              refine ⟨fun j z hj hz => ?_, fun j hj => ?_⟩
              · by_cases ej : j = m + 1
                · subst ej
                  have h2 := HY.out
                  rw [hz] at h2; injection h2 with h2; subst h2; exact HI.out
                · exact HR.out.1 j z (by omega) hz
              · by_cases ej : j = m
                · subst ej; rw [getD_at HX.out, getD_at HY.out]; exact e
                · exact HR.out.2 j (by omega)⟩
            case measure => simp [intOf]; omega
          · have e' : y ≤ x := by omega
            go_wp2
            go_quiet ((go_at_call 93; exact quiet_eq2 (l00In_is y lo hi true HI.out _)))
            go_wp2
            go_ret
            exact ⟨ret_bool (by unfold risesB; rw [upB_no HX.out HY.out (by omega), Bool.and_false]), by first | exact ⟨_, rfl⟩ | exact ⟨_, World.drewN_drewN _ _ _⟩⟩
      · have HI := Lib.hid (Bool.eq_false_iff.2 hin)
        clear hin
        go_wp2
        go_quiet ((go_at_call 93; exact quiet_eq2 (l00In_is y lo hi false HI.out _)))
        go_wp2
        go_ret
        exact ⟨ret_bool (by unfold risesB; rw [all_no HY.out HI.out, Bool.false_and]), by first | exact ⟨_, rfl⟩ | exact ⟨_, World.drewN_drewN _ _ _⟩⟩
    · go_wp2
      go_ret
      refine ⟨ret_bool ?_, _, rfl⟩
      symm
      have hl := HL.out
      unfold risesB
      rw [Bool.and_eq_true, upB_iff, List.all_eq_true]
      refine ⟨fun x hx => ?_, fun j hj => HR.out.2 j (by omega)⟩
      obtain ⟨j, hj⟩ := List.getElem?_of_mem hx
      exact HR.out.1 j x (by have := (List.getElem?_eq_some_iff.1 hj).1; omega) hj

set_option maxHeartbeats 400000 in
theorem allWithin_any (b off n c : Nat) (xs : List Int) (lo hi : Int) (w : World) (hs : Sl w b off (xs.map (.int .i64))) (hl : xs.length = n) (hn : n ≤ 4194304) :
    Calls Try.prog 107 #[.slice (some ⟨b, off, none⟩) n c, .int .i64 lo, .int .i64 hi] w fun e w' => e = .returned (.bool (xs.all (inB · lo hi))) ∧ w = w' := by
  have HL := Lib.hid hl; clear hl
  go_enter Try.func107, Try.ntmps107
  go_wp2
  go_loop [11] (fun i => ∃ k : Nat, k ≤ n ∧ i = .int .i64 k ∧ Hid (∀ j x, j < k → xs[j]? = some x → inB x lo hi = true)) (fun i => n - (intOf i).toNat)
  case atStart => exact ⟨0, Nat.zero_le _, rfl, by intro j x hj; omega⟩
  case round =>
    obtain ⟨k, hk, rfl, HR⟩ := hrel
    by_cases hlt : k < n
    · obtain ⟨y, HY, hy⟩ := map_at (Value.int .i64) xs (k := k) (by have := HL.out; omega)
      have hcb := hs.at hy
      clear hy hs
      rcases Bool.eq_false_or_eq_true (inB y lo hi) with hb | hb
      rotate_left
      · have HB := Lib.hid hb
        clear hb
        go_wp2_with (go_at_call 99; refine (within_is y lo hi _ HB.out _).mono ?_; rintro e w' ⟨rfl, rfl⟩)
        go_ret
        exact ⟨ret_bool (all_no HY.out HB.out).symm, rfl⟩
      · have HB := Lib.hid hb
        clear hb
        go_wp2_with (go_at_call 99; refine (within_is y lo hi _ HB.out _).mono ?_; rintro e w' ⟨rfl, rfl⟩)
        go_round
        case rel => exact ⟨k + 1, by omega, by go_num, by
          intro j x hj hx
          by_cases ej : j = k
          · subst ej
            have h2 := HY.out
            rw [hx] at h2; injection h2 with h2; subst h2; exact HB.out
          · exact HR.out j x (by omega) hx⟩
        case measure => simp [intOf]; omega
    · go_wp2
      go_ret
      refine ⟨ret_bool ?_, rfl⟩
      symm
      have hl := HL.out
      rw [List.all_eq_true]
      intro x hx
      obtain ⟨j, hj⟩ := List.getElem?_of_mem hx
      exact HR.out j x (by have := (List.getElem?_eq_some_iff.1 hj).1; omega) hj

theorem size_int64_any (A : Option Addr) (n c : Nat) (w : World) : Calls Try.prog 183 #[.slice A n c] w fun e w' => e = .returned (.int .i64 n) ∧ w = w' := by
  go_enter Try.func183, Try.ntmps183
  go_wp2
  go_ret
  exact ⟨rfl, rfl⟩

end Go.Proofs.Ytcfkjigapnknnaa

/- Words: IsWord, equality of lists of numbers, where a part begins. -/
namespace Go.Proofs.Ytcfkjigapnknnaa
open Go.RowKit
set_option linter.all false

theorem Sl.cut {w : World} {b off : Nat} {α : Type} {f : α → Value} {xs : List α} (h : Sl w b off (xs.map f)) (k m : Nat) : Sl w b (off + k) (((xs.drop k).take m).map f) := by
  refine ⟨h.1, fun j u hu => ?_⟩
  have h2 : (xs.map f)[k + j]? = some u := by
    rw [List.getElem?_map, List.getElem?_take] at hu
    rw [List.getElem?_map]
    split at hu
    · rw [List.getElem?_drop] at hu; exact hu
    · cases hu
  have := h.2 (k + j) u h2
  rw [← Nat.add_assoc] at this
  exact this
theorem Sl.from {w : World} {b off : Nat} {α : Type} {f : α → Value} {xs : List α} (h : Sl w b off (xs.map f)) (k : Nat) : Sl w b (off + k) ((xs.drop k).map f) := by
  have := h.cut k xs.length
  rwa [List.take_of_length_le (by simp)] at this
theorem Sl.to {w : World} {b off : Nat} {α : Type} {f : α → Value} {xs : List α} (h : Sl w b off (xs.map f)) (m : Nat) : Sl w b off ((xs.take m).map f) := by
  have := h.cut 0 m
  simpa using this

theorem Sl.empty {w : World} {b off : Nat} (h : b < w.heap.size) {α : Type} {f : α → Value} : Sl w b off (([] : List α).map f) := ⟨h, fun j u hu => by simp at hu⟩

def isWordB (xs : List Int) : Bool := decide (xs.length ≤ 400) && xs.all (inB · 0 9)

set_option maxRecDepth 100000 in
theorem l03Is_is (b off n c : Nat) (xs : List Int) (v : Bool) (hv : isWordB xs = v) (w : World) (hs : Sl w b off (xs.map (.int .i64))) (hl : xs.length = n) (hn : n ≤ 4194304) :
    Calls Try.prog 47 #[.slice (some ⟨b, off, none⟩) n c] w fun e w' => e = .returned (.bool v) ∧ w = w' := by
  subst hv
  have HL := Lib.hid hl; clear hl
  go_enter Try.func47, Try.ntmps47
  go_wp2_with fail
  go_loop [3] (fun i => ∃ k : Nat, k ≤ n ∧ i = .int .i64 k ∧ Hid (∀ j x, j < k → xs[j]? = some x → inB x 0 9 = true)) (fun i => n - (intOf i).toNat)
  case atStart => exact ⟨0, Nat.zero_le _, rfl, by intro j x hj; omega⟩
  case round =>
    obtain ⟨k, hk, rfl, HR⟩ := hrel
    by_cases hlt : k < n
    · obtain ⟨y, HY, hy⟩ := map_at (Value.int .i64) xs (k := k) (by have := HL.out; omega)
      have hcb := hs.at hy
      clear hy
      rcases Bool.eq_false_or_eq_true (inB y 0 9) with hb | hb
      rotate_left
      · have HB := Lib.hid hb
        clear hb
        go_wp2_with (go_at_call 93; refine (l00In_is y _ _ _ HB.out _).mono ?_; rintro e w' ⟨rfl, rfl⟩)
        go_ret
        exact ⟨ret_bool (by unfold isWordB; rw [all_no (p := (inB · 0 9)) HY.out HB.out, Bool.and_false]), rfl⟩
      · have HB := Lib.hid hb
        clear hb
        go_wp2_with (go_at_call 93; refine (l00In_is y _ _ _ HB.out _).mono ?_; rintro e w' ⟨rfl, rfl⟩)
        go_round
        case rel => exact ⟨k + 1, by omega, by go_num, by
          intro j x hj hx
          by_cases ej : j = k
          · subst ej
            have h2 := HY.out
            rw [hx] at h2; injection h2 with h2; subst h2; exact HB.out
          · exact HR.out j x (by omega) hx⟩
        case measure => simp [intOf]; omega
    · have HE : Hid (isWordB xs = decide (n ≤ 400)) := by
        have hl := HL.out
        unfold Hid isWordB
        have : xs.all (inB · 0 9) = true := by
          rw [List.all_eq_true]
          intro x hx
          obtain ⟨j, hj⟩ := List.getElem?_of_mem hx
          exact HR.out j x (by have := (List.getElem?_eq_some_iff.1 hj).1; omega) hj
        rw [this, hl, Bool.and_true]
      go_wp2_with fail
      go_ret
      exact ⟨ret_bool (by rw [HE.out]; first | rfl | (rw [decide_eq_decide]; omega) | (apply Bool.eq_iff_iff.2; simp; omega)), rfl⟩

theorem isLetters_is (b off n c : Nat) (xs : List Int) (v : Bool) (hv : xs.all (inB · 0 9) = v) (w : World) (hs : Sl w b off (xs.map (.int .i64))) (hl : xs.length = n) (hn : n ≤ 4194304) :
    Calls Try.prog 104 #[.slice (some ⟨b, off, none⟩) n c] w fun e w' => e = .returned (.bool v) ∧ w = w' := by
  subst hv
  have HL := Lib.hid hl; clear hl
  go_enter Try.func104, Try.ntmps104
  go_wp2_with fail
  refine (allWithin_any b off n c xs _ _ _ hs HL.out hn).mono ?_
  rintro e w' ⟨rfl, rfl⟩
  go_wp2_with fail
  go_ret
  exact ⟨rfl, rfl⟩

theorem isWord_is (b off n c : Nat) (xs : List Int) (v : Bool) (hv : isWordB xs = v) (w : World) (hs : Sl w b off (xs.map (.int .i64))) (hl : xs.length = n) (hn : n ≤ 4194304) :
    Calls Try.prog 52 #[.slice (some ⟨b, off, none⟩) n c] w fun e w' => e = .returned (.bool v) ∧ w = w' := by
  have HL := Lib.hid hl; clear hl
  by_cases h : n ≤ 400
  · have HV : Hid (xs.all (inB · 0 9) = v) := by have := HL.out; unfold isWordB at hv; rw [decide_eq_true (by omega), Bool.true_and] at hv; exact hv
    clear hv
    go_enter Try.func52, Try.ntmps52
    go_wp2_with fail
    refine (isLetters_is b off n c xs v HV.out _ hs HL.out hn).mono ?_
    rintro e w' ⟨rfl, rfl⟩
    go_wp2_with fail
    go_ret
    exact ⟨ret_bool (by simp), rfl⟩
  · have HV : Hid (false = v) := by have := HL.out; unfold isWordB at hv; rw [decide_eq_false (by omega), Bool.false_and] at hv; exact hv
    clear hv
    go_enter Try.func52, Try.ntmps52
    go_wp2_with fail
    go_ret
    exact ⟨ret_bool HV.out, rfl⟩

set_option maxRecDepth 100000 in
theorem l00Same_is (b1 o1 n c1 : Nat) (xs : List Int) (b2 o2 m c2 : Nat) (ys : List Int) (w : World) (hs1 : Sl w b1 o1 (xs.map (.int .i64))) (hl1 : xs.length = n) (hn : n ≤ 4194304) (hs2 : Sl w b2 o2 (ys.map (.int .i64))) (hl2 : ys.length = m) (hm : m ≤ 4194304) (v : Bool) (hv : decide (xs = ys) = v) :
    Calls Try.prog 175 #[.slice (some ⟨b1, o1, none⟩) n c1, .slice (some ⟨b2, o2, none⟩) m c2] w fun e w' => e = .returned (.bool v) ∧ ∃ q, w' = w.drewN q := by
  subst hv
  have HA := Lib.hid hl1
  have HB := Lib.hid hl2
  clear hl1 hl2
  by_cases hnm : n = m
  · subst hnm
    go_enter Try.func175, Try.ntmps175
    go_wp2
    go_loopw [5] (fun i wr => ∃ k q : Nat, k ≤ n ∧ i = .int .i64 k ∧ wr = w.drewN q ∧ Hid (xs.take k = ys.take k)) (fun i _ => n - (intOf i).toNat)
    case atStart => exact ⟨0, 0, Nat.zero_le _, rfl, rfl, rfl⟩
    case round =>
      obtain ⟨k, q, hk, rfl, rfl, HR⟩ := hrel
      by_cases hlt : k < n
      · obtain ⟨x, HX, hx⟩ := map_at (Value.int .i64) xs (k := k) (by have := HA.out; omega)
        obtain ⟨y, HY, hy⟩ := map_at (Value.int .i64) ys (k := k) (by have := HB.out; omega)
        have hca := hs1.at hx
        have hcb := hs2.at hy
        clear hx hy hs1 hs2
        by_cases e : x = y
        · subst e; have hz : (x != x) = false := by simp
          go_wp2
          go_quiet (fail)
          go_wp2
          go_roundw
          case rel => exact ⟨k + 1, _, by omega, by go_num, rfl, take_succ_eq HR.out HX.out HY.out rfl⟩
          case measure => simp [intOf]; omega
        · have hz : (x != y) = true := by simpa using e
          have HE := Lib.hid e
          clear e
          go_wp2
          go_quiet (fail)
          go_wp2
          go_ret
          exact ⟨ret_bool (by simp [ne_of_at HX.out HY.out HE.out]), by first | exact ⟨_, rfl⟩ | exact ⟨_, World.drewN_drewN _ _ _⟩⟩
      · go_wp2
        go_ret
        refine ⟨ret_bool ?_, _, rfl⟩
        have h1 := HR.out
        have h2 := HA.out
        have h3 := HB.out
        obtain rfl : k = n := by omega
        rw [List.take_of_length_le (by omega), List.take_of_length_le (by omega)] at h1
        simp [h1]
  · go_enter Try.func175, Try.ntmps175
    go_wp2
    go_ret
    refine ⟨ret_bool ?_, 0, rfl⟩
    have h2 := HA.out
    have h3 := HB.out
    symm
    rw [decide_eq_false_iff_not]
    intro e; subst e; omega

set_option maxRecDepth 100000 in
theorem equalInts_is (b1 o1 n c1 : Nat) (xs : List Int) (b2 o2 m c2 : Nat) (ys : List Int) (w : World) (hs1 : Sl w b1 o1 (xs.map (.int .i64))) (hl1 : xs.length = n) (hn : n ≤ 4194304) (hs2 : Sl w b2 o2 (ys.map (.int .i64))) (hl2 : ys.length = m) (hm : m ≤ 4194304) (v : Bool) (hv : decide (xs = ys) = v) :
    Calls Try.prog 174 #[.slice (some ⟨b1, o1, none⟩) n c1, .slice (some ⟨b2, o2, none⟩) m c2] w fun e w' => e = .returned (.bool v) ∧ ∃ q, w' = w.drewN q := by
  subst hv
  have HA := Lib.hid hl1
  have HB := Lib.hid hl2
  clear hl1 hl2
  by_cases hnm : n = m
  · subst hnm
    go_enter Try.func174, Try.ntmps174
    go_wp2
    go_loopw [5, 13] (fun _ i wr => ∃ k q : Nat, k ≤ n ∧ i = .int .i64 k ∧ wr = w.drewN q ∧ Hid (xs.take k = ys.take k)) (fun _ i _ => n - (intOf i).toNat)
    case atStart => exact ⟨0, 0, Nat.zero_le _, rfl, rfl, rfl⟩
    case round =>
      obtain ⟨k, q, hk, rfl, rfl, HR⟩ := hrel
      by_cases hlt : k < n
      · obtain ⟨x, HX, hx⟩ := map_at (Value.int .i64) xs (k := k) (by have := HA.out; omega)
        obtain ⟨y, HY, hy⟩ := map_at (Value.int .i64) ys (k := k) (by have := HB.out; omega)
        have hca := hs1.at hx
        have hcb := hs2.at hy
        clear hx hy hs1 hs2
        by_cases e : x = y
        · subst e; have hz : (x != x) = false := by simp
          go_wp2
          go_quiet (fail)
          go_wp2
          go_roundw
          case rel => exact ⟨k + 1, _, by omega, by go_num, rfl, take_succ_eq HR.out HX.out HY.out rfl⟩
          case measure => simp [intOf]; omega
        · have hz : (x != y) = true := by simpa using e
          have HE := Lib.hid e
          clear e
          go_wp2
          go_quiet (fail)
          go_wp2
          go_ret
          exact ⟨ret_bool (by simp [ne_of_at HX.out HY.out HE.out]), by first | exact ⟨_, rfl⟩ | exact ⟨_, World.drewN_drewN _ _ _⟩⟩
      · go_wp2
        go_ret
        refine ⟨ret_bool ?_, _, rfl⟩
        have h1 := HR.out
        have h2 := HA.out
        have h3 := HB.out
        obtain rfl : k = n := by omega
        rw [List.take_of_length_le (by omega), List.take_of_length_le (by omega)] at h1
        simp [h1]
  · go_enter Try.func174, Try.ntmps174
    go_wp2
    go_ret
    refine ⟨ret_bool ?_, 0, rfl⟩
    have h2 := HA.out
    have h3 := HB.out
    symm
    rw [decide_eq_false_iff_not]
    intro e; subst e; omega

/-- Whether a part stands at a place of a word. -/
def startsB (xs : List Int) (k : Nat) (ps : List Int) : Bool := decide (k + ps.length ≤ xs.length) && decide ((xs.drop k).take ps.length = ps)

set_option maxRecDepth 100000 in
theorem l03At_is (b1 o1 n c1 : Nat) (xs : List Int) (k : Nat) (b2 o2 m c2 : Nat) (ps : List Int) (v : Bool) (hv : startsB xs k ps = v) (w : World) (hs1 : Sl w b1 o1 (xs.map (.int .i64))) (hl1 : xs.length = n) (hn : n ≤ 4194304) (hs2 : Sl w b2 o2 (ps.map (.int .i64))) (hl2 : ps.length = m) (hm : m ≤ 4194304) (hk : k ≤ n) (hc : n ≤ c1) :
    Calls Try.prog 152 #[.slice (some ⟨b1, o1, none⟩) n c1, .int .i64 k, .slice (some ⟨b2, o2, none⟩) m c2] w fun e w' => e = .returned (.bool v) ∧ ∃ q, w' = w.drewN q := by
  have HA := Lib.hid hl1
  have HB := Lib.hid hl2
  clear hl1 hl2
  by_cases h : k + m ≤ n
  · have HV : Hid (decide ((xs.drop k).take m = ps) = v) := by
      have := HA.out; have := HB.out; unfold startsB at hv; rw [decide_eq_true (by omega), Bool.true_and] at hv; rw [← HB.out]; exact hv
    clear hv
    have hsub := hs1.cut k m
    have HSL : Hid (((xs.drop k).take m).length = m) := by have := HA.out; unfold Hid; simp; omega
    have hemp : Sl w b1 o1 ((([] : List Int)).map (.int .i64)) := Sl.empty hs1.1
    by_cases hck : c1 = k
    · subst hck
      obtain rfl : m = 0 := by omega
      obtain rfl : n = c1 := by omega
      go_enter Try.func152, Try.ntmps152
      go_wp2_with fail
      refine (l00Same_is _ _ 0 _ [] _ _ 0 _ ps _ (by first | exact hemp | exact Sl.empty hs1.1) rfl (by omega) hs2 HB.out (by omega) v (by rw [← HV.out]; simp)).mono ?_
      rintro e w' ⟨rfl, q, rfl⟩
      go_wp2_with fail
      go_ret
      exact ⟨ret_bool (by simp), q, rfl⟩
    · go_enter Try.func152, Try.ntmps152
      go_wp2_with fail
      refine (l00Same_is _ _ m _ ((xs.drop k).take m) _ _ m _ ps _ hsub HSL.out (by omega) hs2 HB.out (by omega) v HV.out).mono ?_
      rintro e w' ⟨rfl, q, rfl⟩
      go_wp2_with fail
      go_ret
      exact ⟨ret_bool (by simp), q, rfl⟩
  · have HV : Hid (false = v) := by
      have := HA.out; have := HB.out; unfold startsB at hv; rw [decide_eq_false (by omega), Bool.false_and] at hv; exact hv
    clear hv
    go_enter Try.func152, Try.ntmps152
    go_wp2_with fail
    go_ret
    exact ⟨ret_bool HV.out, 0, rfl⟩

set_option maxRecDepth 100000 in
theorem begins_is (b1 o1 n c1 : Nat) (xs : List Int) (b2 o2 m c2 : Nat) (ps : List Int) (v : Bool) (hv : startsB xs 0 ps = v) (w : World) (hs1 : Sl w b1 o1 (xs.map (.int .i64))) (hl1 : xs.length = n) (hn : n ≤ 4194304) (hs2 : Sl w b2 o2 (ps.map (.int .i64))) (hl2 : ps.length = m) (hm : m ≤ 4194304) (hc : n ≤ c1) :
    Calls Try.prog 149 #[.slice (some ⟨b1, o1, none⟩) n c1, .slice (some ⟨b2, o2, none⟩) m c2] w fun e w' => e = .returned (.bool v) ∧ ∃ q, w' = w.drewN q := by
  have HA := Lib.hid hl1
  have HB := Lib.hid hl2
  clear hl1 hl2
  by_cases h : m ≤ n
  · have HV : Hid (decide (xs.take m = ps) = v) := by
      have := HA.out; have := HB.out; unfold startsB at hv; rw [decide_eq_true (by omega), Bool.true_and] at hv; rw [← HB.out]; exact hv
    clear hv
    have hsub := hs1.to m
    have HSL : Hid ((xs.take m).length = m) := by have := HA.out; unfold Hid; simp; omega
    go_enter Try.func149, Try.ntmps149
    go_wp2_with fail
    refine (equalInts_is _ _ m _ (xs.take m) _ _ m _ ps _ hsub HSL.out (by omega) hs2 HB.out (by omega) v HV.out).mono ?_
    rintro e w' ⟨rfl, q, rfl⟩
    go_wp2_with fail
    go_ret
    exact ⟨ret_bool (by simp), q, rfl⟩
  · have HV : Hid (false = v) := by
      have := HA.out; have := HB.out; unfold startsB at hv; rw [decide_eq_false (by omega), Bool.false_and] at hv; exact hv
    clear hv
    go_enter Try.func149, Try.ntmps149
    go_wp2_with fail
    go_ret
    exact ⟨ret_bool HV.out, 0, rfl⟩
end Go.Proofs.Ytcfkjigapnknnaa

/- Contracts of the laws' helpers on MarkovRule and []MarkovRule: copy, compare, size, mark, look at the marks. -/
namespace Go.Proofs.Ytcfkjigapnknnaa
open Go.RowKit
set_option linter.all false

/-- The data. -/
structure DMarkovRule where
  f0 : List Int
  f1 : List Int
  f2 : Bool
instance : DecidableEq DMarkovRule := fun x y => decidable_of_iff (x.f0 = y.f0 ∧ x.f1 = y.f1 ∧ x.f2 = y.f2) ⟨fun h => by cases x; cases y; simp_all, fun h => by subst h; exact ⟨rfl, rfl, rfl⟩⟩
/-- A record in memory. -/
structure EMarkovRule where
  d : DMarkovRule
  u0 : Value
  u1 : Value
def EMarkovRule.vs (e : EMarkovRule) : List Value := [e.u0, e.u1, .bool e.d.f2]
def EMarkovRule.us (e : EMarkovRule) : List Value := [e.u0, e.u1]
def EMarkovRule.its (e : EMarkovRule) : List (Nat × List Value) := [(e.d.f0.length, rows oneI e.d.f0), (e.d.f1.length, rows oneI e.d.f1)]
def kndMarkovRule : Knd EMarkovRule := ⟨EMarkovRule.vs, EMarkovRule.us, EMarkovRule.its, 3, 2, fun _ => rfl, fun _ => rfl, fun _ => rfl⟩
def wlMarkovRule (x : DMarkovRule) : Nat := x.f0.length + x.f1.length
def wbMarkovRule (m : Nat) (x : DMarkovRule) : Prop := x.f0.length ≤ m ∧ x.f1.length ≤ m ∧ True
def DMarkovRule.wf (x : DMarkovRule) : Prop := (∀ y ∈ x.f0, Wf64 y) ∧ (∀ y ∈ x.f1, Wf64 y)
def RdMarkovRule (w : World) (e : EMarkovRule) : Prop := (∃ A c, e.u0 = .slice A e.d.f0.length c ∧ Args 1 w A e.d.f0.length (rows oneI e.d.f0)) ∧ (∃ A c, e.u1 = .slice A e.d.f1.length c ∧ Args 1 w A e.d.f1.length (rows oneI e.d.f1)) ∧ True
theorem RdMarkovRule.below {w w' : World} {e : EMarkovRule} (h : RdMarkovRule w e) (hb : Below w.heap.size w w') : RdMarkovRule w' e := by
  obtain ⟨⟨A0, c0, e0, h0⟩, ⟨A1, c1, e1, h1⟩, -⟩ := h
  exact ⟨⟨A0, c0, e0, h0.below hb⟩, ⟨A1, c1, e1, h1.below hb⟩, trivial⟩
def RdsMarkovRule (w : World) (es : List EMarkovRule) : Prop := ∀ e ∈ es, RdMarkovRule w e
theorem RdsMarkovRule.below {w w' : World} {es : List EMarkovRule} (h : RdsMarkovRule w es) (hb : Below w.heap.size w w') : RdsMarkovRule w' es := fun e he => (h e he).below hb
theorem rdsMarkovRule_of {base hi : Nat} {T Te : TypeId} {V : Value} {es : List EMarkovRule} {W : World} (h : SGrid kndMarkovRule base hi T Te 1 V es W) : RdsMarkovRule W es := by
  intro e he
  obtain ⟨k, hk⟩ := List.getElem?_of_mem he
  refine ⟨?_, ?_, trivial⟩
  · have hr := h.row (j := 0) hk (v := e.u0) (it := (e.d.f0.length, rows oneI e.d.f0)) rfl rfl
    obtain ⟨A, c, e1⟩ := own_form hr
    rw [e1] at hr
    exact ⟨A, c, e1, args_of_own hr⟩
  · have hr := h.row (j := 1) hk (v := e.u1) (it := (e.d.f1.length, rows oneI e.d.f1)) rfl rfl
    obtain ⟨A, c, e1⟩ := own_form hr
    rw [e1] at hr
    exact ⟨A, c, e1, args_of_own hr⟩
def mkMarkovRule (k : Int) (e : EMarkovRule) : EMarkovRule := ⟨⟨runI k e.d.f0.length, runI (k + ((e.d.f0.length : Nat) : Int)) e.d.f1.length, (((k + ((e.d.f0.length : Nat) : Int)) + ((e.d.f1.length : Nat) : Int)) % 3 == 0)⟩, e.u0, e.u1⟩
def widMarkovRule (e : EMarkovRule) : Nat := 1 + wlMarkovRule e.d * 1
theorem widMarkovRule_eq (e : EMarkovRule) : widMarkovRule e = e.d.f0.length * 1 + e.d.f1.length * 1 + 1 := by unfold widMarkovRule wlMarkovRule; omega
/-- Each of the record's slices has an address below m. -/
def adrMarkovRule (m : Nat) (e : EMarkovRule) : Prop := (∃ g c : Nat, g < m ∧ e.u0 = .slice (some ⟨g, 0, none⟩) e.d.f0.length c ∧ e.d.f0.length ≤ c) ∧ (∃ g c : Nat, g < m ∧ e.u1 = .slice (some ⟨g, 0, none⟩) e.d.f1.length c ∧ e.d.f1.length ≤ c) ∧ True
theorem adrMarkovRule.mono {m m' : Nat} {e : EMarkovRule} (h : adrMarkovRule m e) (hm : m ≤ m') : adrMarkovRule m' e := by
  obtain ⟨⟨g0, d0, l0, e0⟩, ⟨g1, d1, l1, e1⟩, -⟩ := h
  exact ⟨⟨g0, d0, Nat.lt_of_lt_of_le l0 hm, e0⟩, ⟨g1, d1, Nat.lt_of_lt_of_le l1 hm, e1⟩, trivial⟩
theorem adrsMarkovRule_snoc {m m' : Nat} {es : List EMarkovRule} (h : ∀ e ∈ es, adrMarkovRule m e) (hm : m ≤ m') {x : EMarkovRule} (hx : adrMarkovRule m' x) : ∀ e ∈ es ++ [x], adrMarkovRule m' e := by
  intro e he
  rcases List.mem_append.1 he with h1 | h1
  · exact (h e h1).mono hm
  · rw [List.mem_singleton.1 h1]; exact hx
/-- Readable records whose slices have addresses. -/
def RcsMarkovRule (w : World) (es : List EMarkovRule) : Prop := RdsMarkovRule w es ∧ ∀ e ∈ es, adrMarkovRule w.heap.size e
theorem RcsMarkovRule.below {w w' : World} {es : List EMarkovRule} (h : RcsMarkovRule w es) (hb : Below w.heap.size w w') : RcsMarkovRule w' es := ⟨h.1.below hb, fun e he => (h.2 e he).mono hb.size⟩
theorem rcsMarkovRule_of {base hi m : Nat} {T Te : TypeId} {V : Value} {es : List EMarkovRule} {W : World} (h : SGrid kndMarkovRule base hi T Te 1 V es W) (ha : ∀ e ∈ es, adrMarkovRule m e) (hm : m ≤ W.heap.size) : RcsMarkovRule W es := ⟨rdsMarkovRule_of h, fun e he => (ha e he).mono hm⟩
/-- A record's slices read as lists. -/
theorem RcsMarkovRule.at {w : World} {es : List EMarkovRule} (h : RcsMarkovRule w es) {e : EMarkovRule} (he : e ∈ es) : (∃ g c : Nat, e.u0 = .slice (some ⟨g, 0, none⟩) e.d.f0.length c ∧ e.d.f0.length ≤ c ∧ Sl w g 0 (e.d.f0.map (.int .i64))) ∧ (∃ g c : Nat, e.u1 = .slice (some ⟨g, 0, none⟩) e.d.f1.length c ∧ e.d.f1.length ≤ c ∧ Sl w g 0 (e.d.f1.map (.int .i64))) ∧ True := by
  obtain ⟨⟨A0, c0, hu0, ha0⟩, ⟨A1, c1, hu1, ha1⟩, -⟩ := h.1 e he
  obtain ⟨⟨g0, d0, hl0, hg0, hc0⟩, ⟨g1, d1, hl1, hg1, hc1⟩, -⟩ := h.2 e he
  refine ⟨?_, ?_, trivial⟩
  · refine ⟨g0, d0, hg0, hc0, ?_⟩
    rw [hg0] at hu0
    injection hu0 with e1 e2 e3
    rcases ha0.2 with h0 | ⟨b, off, hA, hsl⟩
    · rw [List.eq_nil_of_length_eq_zero h0]; exact Sl.empty hl0
    · rw [hA] at e1
      injection e1 with e1
      injection e1 with e4 e5 e6
      subst e4; subst e5
      rw [rows_oneI] at hsl
      exact hsl
  · refine ⟨g1, d1, hg1, hc1, ?_⟩
    rw [hg1] at hu1
    injection hu1 with e1 e2 e3
    rcases ha1.2 with h0 | ⟨b, off, hA, hsl⟩
    · rw [List.eq_nil_of_length_eq_zero h0]; exact Sl.empty hl1
    · rw [hA] at e1
      injection e1 with e1
      injection e1 with e4 e5 e6
      subst e4; subst e5
      rw [rows_oneI] at hsl
      exact hsl
theorem infoMarkovRule : (Try.prog.info? 117).map (fun i => (i.zero, i.size, i.bytes)) = some (some (.agg #[.slice none 0 0, .slice none 0 0, .bool false]), 3, 56) := by kernel_rfl

set_option maxRecDepth 100000 in
theorem eqMarkovRule_any (e g : EMarkovRule) (w : World) (he : RdMarkovRule w e) (hg : RdMarkovRule w g) (hl : wlMarkovRule e.d ≤ 4194304) (hm : wlMarkovRule g.d ≤ 4194304) :
    Calls Try.prog 73 #[.agg #[e.u0, e.u1, .bool e.d.f2], .agg #[g.u0, g.u1, .bool g.d.f2]] w fun z w' => z = .returned (.bool (decide (e.d = g.d))) ∧ Below w.heap.size w w' := by
  obtain ⟨⟨f0, f1, f2⟩, u0, u1⟩ := e
  obtain ⟨⟨g0, g1, g2⟩, v0, v1⟩ := g
  obtain ⟨⟨A0, c0, hu0, ha0⟩, ⟨A1, c1, hu1, ha1⟩, -⟩ := he
  obtain ⟨⟨Z0, d0, hv0, hb0⟩, ⟨Z1, d1, hv1, hb1⟩, -⟩ := hg
  simp only [wlMarkovRule] at hl hm hu0 ha0 hv0 hb0 hu1 ha1 hv1 hb1 ⊢
  subst hu0
  subst hv0
  obtain ⟨n0, hn0⟩ : ∃ n, n = f0.length := ⟨_, rfl⟩
  rw [← hn0] at ha0 hl ⊢
  obtain ⟨m0, hm0⟩ : ∃ n, n = g0.length := ⟨_, rfl⟩
  rw [← hm0] at hb0 hm ⊢
  clear hn0 hm0
  subst hu1
  subst hv1
  obtain ⟨n1, hn1⟩ : ∃ n, n = f1.length := ⟨_, rfl⟩
  rw [← hn1] at ha1 hl ⊢
  obtain ⟨m1, hm1⟩ : ∃ n, n = g1.length := ⟨_, rfl⟩
  rw [← hm1] at hb1 hm ⊢
  clear hn1 hm1
  obtain ⟨w0, HW0, B0, x0, y0⟩ := al2 w (.cells #[.slice A0 n0 c0, .slice A1 n1 c1, .bool f2] 117) (.cells #[.slice Z0 m0 d0, .slice Z1 m1 d1, .bool g2] 117)
  have HX0 := Lib.hid x0; have HY0 := Lib.hid y0; clear x0 y0
  have BL : Hid (Below w.heap.size w ((w.alloc (.cells #[.slice A0 n0 c0, .slice A1 n1 c1, .bool f2] 117)).alloc (.cells #[.slice Z0 m0 d0, .slice Z1 m1 d1, .bool g2] 117))) := by have := HW0.out; rw [← this]; exact B0
  by_cases h0 : f0 = g0
  rotate_left
  · have NE := Lib.hid h0
    have E0 := Lib.hid (decide_eq_false h0)
    clear h0
    go_enter Try.func73, Try.ntmps73
    go_wp2_with fail
    rw [← HW0.out]
    refine (inEqInt64S A0 Z0 n0 m0 c0 d0 f0 g0 false E0.out _ (ha0.below B0) (hb0.below B0) (by omega) (by omega)).mono ?_
    rintro z w1 ⟨rfl, b1⟩
    have B1 := below_step B0 b1
    have HX1 := Lib.hid ((b1.block _ (heap_lt HX0.out)).trans HX0.out)
    have HY1 := Lib.hid ((b1.block _ (heap_lt HY0.out)).trans HY0.out)
    clear b1
    go_wp2
    go_ret
    exact ⟨ret_bool (by simp [NE.out]), B1⟩
  subst h0
  by_cases h1 : f1 = g1
  rotate_left
  · have NE := Lib.hid h1
    have E1 := Lib.hid (decide_eq_false h1)
    clear h1
    go_enter Try.func73, Try.ntmps73
    go_wp2_with fail
    rw [← HW0.out]
    refine (inEqInt64S A0 Z0 n0 m0 c0 d0 f0 f0 true (decide_eq_true rfl) _ (ha0.below B0) (hb0.below B0) (by omega) (by omega)).mono ?_
    rintro z w1 ⟨rfl, b1⟩
    have B1 := below_step B0 b1
    have HX1 := Lib.hid ((b1.block _ (heap_lt HX0.out)).trans HX0.out)
    have HY1 := Lib.hid ((b1.block _ (heap_lt HY0.out)).trans HY0.out)
    have kx1_1 : w1.cell? ⟨w.heap.size, 1, none⟩ = some (.slice A1 n1 c1) := by rw [cell_of_heap HX1.out]; rfl
    have ky1_1 : w1.cell? ⟨w.heap.size + 1, 1, none⟩ = some (.slice Z1 m1 d1) := by rw [cell_of_heap HY1.out]; rfl
    clear b1
    go_wp2_with fail
    refine (inEqInt64S A1 Z1 n1 m1 c1 d1 f1 g1 false E1.out _ (ha1.below B1) (hb1.below B1) (by omega) (by omega)).mono ?_
    rintro z w2 ⟨rfl, b2⟩
    have B2 := below_step B1 b2
    have HX2 := Lib.hid ((b2.block _ (heap_lt HX1.out)).trans HX1.out)
    have HY2 := Lib.hid ((b2.block _ (heap_lt HY1.out)).trans HY1.out)
    clear b2
    go_wp2
    go_ret
    exact ⟨ret_bool (by simp [NE.out]), B2⟩
  subst h1
  by_cases h2 : f2 = g2
  rotate_left
  · have NE := Lib.hid h2
    have e2 : (f2 != g2) = true := by simpa using h2
    have e2b : (f2 == g2) = false := by simpa using h2
    clear h2
    go_enter Try.func73, Try.ntmps73
    go_wp2_with fail
    rw [← HW0.out]
    refine (inEqInt64S A0 Z0 n0 m0 c0 d0 f0 f0 true (decide_eq_true rfl) _ (ha0.below B0) (hb0.below B0) (by omega) (by omega)).mono ?_
    rintro z w1 ⟨rfl, b1⟩
    have B1 := below_step B0 b1
    have HX1 := Lib.hid ((b1.block _ (heap_lt HX0.out)).trans HX0.out)
    have HY1 := Lib.hid ((b1.block _ (heap_lt HY0.out)).trans HY0.out)
    have kx1_1 : w1.cell? ⟨w.heap.size, 1, none⟩ = some (.slice A1 n1 c1) := by rw [cell_of_heap HX1.out]; rfl
    have ky1_1 : w1.cell? ⟨w.heap.size + 1, 1, none⟩ = some (.slice Z1 m1 d1) := by rw [cell_of_heap HY1.out]; rfl
    clear b1
    go_wp2_with fail
    refine (inEqInt64S A1 Z1 n1 m1 c1 d1 f1 f1 true (decide_eq_true rfl) _ (ha1.below B1) (hb1.below B1) (by omega) (by omega)).mono ?_
    rintro z w2 ⟨rfl, b2⟩
    have B2 := below_step B1 b2
    have HX2 := Lib.hid ((b2.block _ (heap_lt HX1.out)).trans HX1.out)
    have HY2 := Lib.hid ((b2.block _ (heap_lt HY1.out)).trans HY1.out)
    have kx2_2 : w2.cell? ⟨w.heap.size, 2, none⟩ = some (.bool f2) := by rw [cell_of_heap HX2.out]; rfl
    have ky2_2 : w2.cell? ⟨w.heap.size + 1, 2, none⟩ = some (.bool g2) := by rw [cell_of_heap HY2.out]; rfl
    clear b2
    go_wp2
    go_ret
    exact ⟨ret_bool (by simp [NE.out]), B2⟩
  subst h2
  go_enter Try.func73, Try.ntmps73
  go_wp2_with fail
  rw [← HW0.out]
  refine (inEqInt64S A0 Z0 n0 m0 c0 d0 f0 f0 true (decide_eq_true rfl) _ (ha0.below B0) (hb0.below B0) (by omega) (by omega)).mono ?_
  rintro z w1 ⟨rfl, b1⟩
  have B1 := below_step B0 b1
  have HX1 := Lib.hid ((b1.block _ (heap_lt HX0.out)).trans HX0.out)
  have HY1 := Lib.hid ((b1.block _ (heap_lt HY0.out)).trans HY0.out)
  have kx1_1 : w1.cell? ⟨w.heap.size, 1, none⟩ = some (.slice A1 n1 c1) := by rw [cell_of_heap HX1.out]; rfl
  have ky1_1 : w1.cell? ⟨w.heap.size + 1, 1, none⟩ = some (.slice Z1 m1 d1) := by rw [cell_of_heap HY1.out]; rfl
  clear b1
  go_wp2_with fail
  refine (inEqInt64S A1 Z1 n1 m1 c1 d1 f1 f1 true (decide_eq_true rfl) _ (ha1.below B1) (hb1.below B1) (by omega) (by omega)).mono ?_
  rintro z w2 ⟨rfl, b2⟩
  have B2 := below_step B1 b2
  have HX2 := Lib.hid ((b2.block _ (heap_lt HX1.out)).trans HX1.out)
  have HY2 := Lib.hid ((b2.block _ (heap_lt HY1.out)).trans HY1.out)
  have kx2_2 : w2.cell? ⟨w.heap.size, 2, none⟩ = some (.bool f2) := by rw [cell_of_heap HX2.out]; rfl
  have ky2_2 : w2.cell? ⟨w.heap.size + 1, 2, none⟩ = some (.bool f2) := by rw [cell_of_heap HY2.out]; rfl
  clear b2
  go_wp2
  go_ret
  exact ⟨ret_bool (by simp), B2⟩

theorem eqMarkovRule_is (e g : EMarkovRule) (v : Bool) (hv : decide (e.d = g.d) = v) (w : World) (he : RdMarkovRule w e) (hg : RdMarkovRule w g) (hl : wlMarkovRule e.d ≤ 4194304) (hm : wlMarkovRule g.d ≤ 4194304) :
    Calls Try.prog 73 #[.agg #[e.u0, e.u1, .bool e.d.f2], .agg #[g.u0, g.u1, .bool g.d.f2]] w fun z w' => z = .returned (.bool v) ∧ Below w.heap.size w w' := by
  subst hv; exact eqMarkovRule_any e g w he hg hl hm

/-- How many elements the records' slices have. -/
def sumMarkovRule (xs : List DMarkovRule) : Nat := (xs.map wlMarkovRule).sum
theorem sumMarkovRule_take {xs : List DMarkovRule} {k : Nat} {x : DMarkovRule} (h : xs[k]? = some x) : sumMarkovRule (xs.take (k + 1)) = sumMarkovRule (xs.take k) + wlMarkovRule x := by rw [List.take_add_one, h]; simp [sumMarkovRule]
theorem sumMarkovRule_le (xs : List DMarkovRule) (k : Nat) : sumMarkovRule (xs.take k) ≤ sumMarkovRule xs := by
  have h : ∀ a b : List DMarkovRule, sumMarkovRule a ≤ sumMarkovRule (a ++ b) := by intro a b; simp [sumMarkovRule]
  have := h (xs.take k) (xs.drop k)
  rwa [List.take_append_drop] at this
theorem sumMarkovRule_at {xs : List DMarkovRule} {k : Nat} {x : DMarkovRule} (h : xs[k]? = some x) : wlMarkovRule x ≤ sumMarkovRule xs := by
  have := sumMarkovRule_take h
  have := sumMarkovRule_le xs (k + 1)
  omega

set_option maxRecDepth 100000 in
set_option maxHeartbeats 1000000 in
theorem eqMarkovRuleS_any (A B : Option Addr) (n m c d : Nat) (es gs : List EMarkovRule) (w : World) (ha : Args 3 w A n (rows EMarkovRule.vs es)) (hra : RdsMarkovRule w es) (hb : Args 3 w B m (rows EMarkovRule.vs gs)) (hrb : RdsMarkovRule w gs) (hn : n ≤ 4194304) (hm : m ≤ 4194304) (hx : sumMarkovRule (es.map (·.d)) ≤ 4194304) (hy : sumMarkovRule (gs.map (·.d)) ≤ 4194304) :
    Calls Try.prog 33 #[.slice A n c, .slice B m d] w fun z w' => z = .returned (.bool (decide (es.map (·.d) = gs.map (·.d)))) ∧ Below w.heap.size w w' := by
  have HA : Hid (es.length = n) := by have := ha.1; rw [rows_len (s := 3) (fun _ => rfl)] at this; unfold Hid; omega
  have HB : Hid (gs.length = m) := by have := hb.1; rw [rows_len (s := 3) (fun _ => rfl)] at this; unfold Hid; omega
  have HX := Lib.hid hx; have HY := Lib.hid hy; clear hx hy
  by_cases hnm : n = m
  rotate_left
  · have hne : ((n : Int) != (m : Int)) = true := by simp; omega
    go_enter Try.func33, Try.ntmps33
    go_wp2
    go_ret
    refine ⟨ret_bool ?_, Below.refl _ _⟩
    symm
    apply decide_eq_false
    intro h
    have := congrArg List.length h
    simp only [List.length_map] at this
    have h2 := HA.out
    have h3 := HB.out
    omega
  subst hnm
  go_enter Try.func33, Try.ntmps33
  go_wp2
  go_loopw [5] (fun i wr => ∃ k : Nat, k ≤ n ∧ i = .int .i64 k ∧ Below w.heap.size w wr ∧ Hid ((es.map (·.d)).take k = (gs.map (·.d)).take k)) (fun i _ => n - (intOf i).toNat)
  case atStart => exact ⟨0, Nat.zero_le _, rfl, Below.refl _ _, rfl⟩
  case round =>
    obtain ⟨k, hk, rfl, hB, HR⟩ := hrel
    by_cases hlt : k < n
    rotate_left
    · go_wp2
      go_ret
      refine ⟨ret_bool ?_, hB⟩
      have h1 := HR.out
      have h2 := HA.out
      have h3 := HB.out
      rw [List.take_of_length_le (by simp; omega), List.take_of_length_le (by simp; omega)] at h1
      simp [h1]
    obtain ⟨b1, o1, rfl, hs1⟩ := ha.sl hlt
    obtain ⟨b2, o2, rfl, hs2⟩ := hb.sl hlt
    obtain ⟨e, HE⟩ := hget HA hlt
    obtain ⟨g, HG⟩ := hget HB hlt
    have hrd1 := hra e (List.mem_of_getElem? HE.out)
    have hrd2 := hrb g (List.mem_of_getElem? HG.out)
    have hwl1 := sumMarkovRule_at (xs := es.map (·.d)) (k := k) (x := e.d) (by rw [List.getElem?_map, HE.out]; rfl)
    have hwl2 := sumMarkovRule_at (xs := gs.map (·.d)) (k := k) (x := g.d) (by rw [List.getElem?_map, HG.out]; rfl)
    have hst1 := HX.out; have hst2 := HY.out
    have HED : Hid ((es.map (·.d))[k]? = some e.d) := by unfold Hid; rw [List.getElem?_map, HE.out]; rfl
    have HGD : Hid ((gs.map (·.d))[k]? = some g.d) := by unfold Hid; rw [List.getElem?_map, HG.out]; rfl
    obtain ⟨v, hv⟩ : ∃ v, decide (e.d = g.d) = v := ⟨_, rfl⟩
    have HC := Lib.hid (fun W (hW : Below w.heap.size w W) => eqMarkovRule_is e g v hv W (hrd1.below hW) (hrd2.below hW) (by omega) (by omega))
    have HV := Lib.hid hv
    obtain ⟨⟨A0, c0, hu0, ha0⟩, ⟨A1, c1, hu1, ha1⟩, -⟩ := hrd1
    obtain ⟨⟨B0, d0, hv0, hb0⟩, ⟨B1, d1, hv1, hb1⟩, -⟩ := hrd2
    have p0 : wr.cell? ⟨b1, o1 + k * 3, none⟩ = some (e.u0) := Sl.rec (f := EMarkovRule.vs) (s := 3) (fun _ => rfl) (hs1.below' hB) HE.out (j := 0) rfl
    have p1 : wr.cell? ⟨b1, o1 + k * 3 + 1, none⟩ = some (e.u1) := Sl.rec (f := EMarkovRule.vs) (s := 3) (fun _ => rfl) (hs1.below' hB) HE.out (j := 1) rfl
    have p2 : wr.cell? ⟨b1, o1 + k * 3 + 2, none⟩ = some (.bool e.d.f2) := Sl.rec (f := EMarkovRule.vs) (s := 3) (fun _ => rfl) (hs1.below' hB) HE.out (j := 2) rfl
    have q0 : wr.cell? ⟨b2, o2 + k * 3, none⟩ = some (g.u0) := Sl.rec (f := EMarkovRule.vs) (s := 3) (fun _ => rfl) (hs2.below' hB) HG.out (j := 0) rfl
    have q1 : wr.cell? ⟨b2, o2 + k * 3 + 1, none⟩ = some (g.u1) := Sl.rec (f := EMarkovRule.vs) (s := 3) (fun _ => rfl) (hs2.below' hB) HG.out (j := 1) rfl
    have q2 : wr.cell? ⟨b2, o2 + k * 3 + 2, none⟩ = some (.bool g.d.f2) := Sl.rec (f := EMarkovRule.vs) (s := 3) (fun _ => rfl) (hs2.below' hB) HG.out (j := 2) rfl
    rw [hu0] at HC p0
    rw [hv0] at HC q0
    obtain ⟨n0, hn0⟩ : ∃ n, n = e.d.f0.length := ⟨_, rfl⟩
    obtain ⟨m0, hm0⟩ : ∃ n, n = g.d.f0.length := ⟨_, rfl⟩
    rw [← hn0, ← hm0] at HC
    rw [← hn0] at p0
    rw [← hm0] at q0
    clear hn0 hm0 hu0 hv0 ha0 hb0
    rw [hu1] at HC p1
    rw [hv1] at HC q1
    obtain ⟨n1, hn1⟩ : ∃ n, n = e.d.f1.length := ⟨_, rfl⟩
    obtain ⟨m1, hm1⟩ : ∃ n, n = g.d.f1.length := ⟨_, rfl⟩
    rw [← hn1, ← hm1] at HC
    rw [← hn1] at p1
    rw [← hm1] at q1
    clear hn1 hm1 hu1 hv1 ha1 hb1
    clear hv hs1 hs2 ha hb hra hrb hwl1 hwl2 hst1 hst2
    cases v with
    | true =>
      have E2 : Hid (e.d = g.d) := of_decide_eq_true (p := e.d = g.d) HV.out
      go_wp2
      go_still_tail 8, (by kernel_rfl)
      change wpList _ _ _ _ _ wr.drew
      have hB2 := hB.drew
      clear hB p0 q0 p1 q1 p2 q2
      generalize wr.drew = w2 at hB2 ⊢
      go_wp2_with fail
      refine (HC.out _ hB2).mono ?_
      rintro z w3 ⟨rfl, hb3⟩
      go_wp2
      go_roundw
      case rel => exact ⟨k + 1, by omega, by go_num, below_step hB2 hb3, take_succ_eq HR.out HED.out HGD.out E2.out⟩
      case measure => simp [intOf]; omega
    | false =>
      have E2 : Hid (¬ e.d = g.d) := of_decide_eq_false (p := e.d = g.d) HV.out
      go_wp2
      go_still_tail 8, (by kernel_rfl)
      change wpList _ _ _ _ _ wr.drew
      have hB2 := hB.drew
      clear hB p0 q0 p1 q1 p2 q2
      generalize wr.drew = w2 at hB2 ⊢
      go_wp2_with fail
      refine (HC.out _ hB2).mono ?_
      rintro z w3 ⟨rfl, hb3⟩
      go_wp2
      go_ret
      exact ⟨ret_bool (by simp [ne_of_at HED.out HGD.out E2.out]), below_step hB2 hb3⟩

set_option maxRecDepth 100000 in
set_option maxHeartbeats 2000000 in
theorem markMarkovRuleS_any (base hi : Nat) (V : Value) (es : List EMarkovRule) (k0 : Int) (w : World) (hg : SGrid kndMarkovRule base hi 117 2 1 V es w) (hk0 : 0 ≤ k0) (hk1 : k0 + (widSum widMarkovRule es : Nat) ≤ 1099511627776) (hn : es.length ≤ 4194304) (hit : ∀ e ∈ es, wlMarkovRule e.d ≤ 4194304) :
    Calls Try.prog 36 #[V, .int .i64 k0] w fun z w' => z = .returned (.int .i64 (k0 + (widSum widMarkovRule es : Nat))) ∧ SGrid kndMarkovRule base hi 117 2 1 V (markL widMarkovRule mkMarkovRule k0 es) w' ∧ Touch base hi w w' := by
  obtain ⟨n, hnn⟩ : ∃ n, n = es.length := ⟨_, rfl⟩
  have HL : Hid (es.length = n) := hnn.symm
  rw [← hnn] at hn
  clear hnn
  have HTL := Lib.hid hit; clear hit
  rcases Nat.eq_zero_or_pos n with hz | hz
  · subst hz
    have he : es = [] := List.eq_nil_of_length_eq_zero HL.out
    subst he
    obtain ⟨A, cap, rfl⟩ := own_form hg.own
    have HG := Lib.hid hg; clear hg
    go_enter Try.func36, Try.ntmps36
    go_wp2
    refine wp_loop_rounds 1 ?_
    rw [rounds_succ]
    go_wp2
    go_ret
    exact ⟨by simp [widSum], HG.out, Touch.refl _ _ _⟩
  obtain ⟨g, cap, rfl⟩ := hg.addr HL.out hz
  obtain ⟨tt, htt⟩ : ∃ t, t = widSum widMarkovRule es := ⟨_, rfl⟩
  rw [← htt] at hk1
  have HT := Lib.hid htt; clear htt
  have HG0 := Lib.hid hg; clear hg
  go_enter Try.func36, Try.ntmps36
  go_wp2
  go_loopw [1, 5] (fun kk i wr => ∃ k : Nat, k ≤ n ∧ i = .int .i64 k ∧ kk = .int .i64 (k0 + (widSum widMarkovRule (es.take k) : Nat)) ∧ Hid (SGrid kndMarkovRule base hi 117 2 1 (.slice (some ⟨g, 0, none⟩) n cap) (markL widMarkovRule mkMarkovRule k0 (es.take k) ++ es.drop k) (wr)) ∧ Touch base hi w wr) (fun _ i _ => n - (intOf i).toNat)
  case atStart => exact ⟨0, Nat.zero_le _, rfl, by simp [widSum], by simpa [markL, Hid] using HG0.out, Touch.refl _ _ _⟩
  case round =>
    obtain ⟨k, hk, rfl, rfl, HG, hto⟩ := hrel
    by_cases hlt : k < n
    rotate_left
    · obtain rfl : n = k := by omega
      have hg := HG.out
      rw [List.take_of_length_le (by have := HL.out; omega), List.drop_of_length_le (by have := HL.out; omega), List.append_nil] at hg
      rw [List.take_of_length_le (by have := HL.out; omega)]
      have HG2 := Lib.hid hg; clear hg
      go_wp2
      go_ret
      exact ⟨rfl, HG2.out, hto⟩
    obtain ⟨e, HX⟩ := hget HL hlt
    have hk_0 := markL_cur widMarkovRule mkMarkovRule HX.out k0
    have hc1 := widSum_take widMarkovRule HX.out
    have hc2 := widSum_le widMarkovRule es (k + 1)
    have hwe := widMarkovRule_eq e
    have hlen := HTL.out e (List.mem_of_getElem? HX.out)
    unfold wlMarkovRule at hlen
    obtain ⟨p, hp⟩ : ∃ p, p = widSum widMarkovRule (es.take k) := ⟨_, rfl⟩
    rw [← hp, hwe] at hc1
    rw [← hp]
    have hpt : p + (e.d.f0.length * 1 + e.d.f1.length * 1 + 1) ≤ tt := by have := HT.out; omega
    have HP := Lib.hid hp; have HC1 := Lib.hid hc1
    have s_0 := HG.out
    have cwr_0 : wr.cell? ⟨g, k * 3, none⟩ = some (e.u0) := s_0.cell (j := 0) hk_0 rfl
    have cwr_1 : wr.cell? ⟨g, k * 3 + 1, none⟩ = some (e.u1) := s_0.cell (j := 1) hk_0 rfl
    have cwr_2 : wr.cell? ⟨g, k * 3 + 2, none⟩ = some (.bool e.d.f2) := s_0.cell (j := 2) hk_0 rfl
    have zwr_2 : wr.frozen? ⟨g, k * 3 + 2, none⟩ = false := s_0.thaw _
    clear hp hc1 hc2 hwe
    have r0 := SGrid.row (j := 0) s_0 hk_0 (v := e.u0) (it := (e.d.f0.length, rows oneI e.d.f0)) rfl rfl
    go_wp2_with fail
    refine (inMarkInt64S base e.u0 e.d.f0.length ((k0 + (p : Int))) _ _ r0 (by omega) (by omega) (by omega)).mono ?_
    rintro z wb0 ⟨rfl, ow0, gr0⟩
    have st_1 := SGrid.mark (k := k) (j := 0) (e' := (⟨⟨runI ((k0 + (p : Int))) e.d.f0.length, e.d.f1, e.d.f2⟩, e.u0, e.u1⟩ : EMarkovRule)) s_0 hk_0 (v := e.u0) (it := (e.d.f0.length, rows oneI e.d.f0)) rfl rfl gr0 ow0 rfl rfl (by show EMarkovRule.its _ = (EMarkovRule.its _).set 0 _; simp only [EMarkovRule.its, runI_len, rows_runI]; rfl) (by decide)
    have s_1 : SGrid kndMarkovRule base hi 117 2 1 (.slice (some ⟨g, 0, none⟩) n cap) ((markL widMarkovRule mkMarkovRule k0 (es.take k) ++ es.drop k).set k (⟨⟨runI ((k0 + (p : Int))) e.d.f0.length, e.d.f1, e.d.f2⟩, e.u0, e.u1⟩ : EMarkovRule)) (wb0) := st_1.1
    have t_1 : Touch base hi w wb0 := hto.trans st_1.2
    have hk_1 : ((markL widMarkovRule mkMarkovRule k0 (es.take k) ++ es.drop k).set k (⟨⟨runI ((k0 + (p : Int))) e.d.f0.length, e.d.f1, e.d.f2⟩, e.u0, e.u1⟩ : EMarkovRule))[k]? = some (⟨⟨runI ((k0 + (p : Int))) e.d.f0.length, e.d.f1, e.d.f2⟩, e.u0, e.u1⟩ : EMarkovRule) := get_set' hk_0 _
    clear st_1 r0 ow0 gr0
    have cwb0_1 : wb0.cell? ⟨g, k * 3 + 1, none⟩ = some (e.u1) := s_1.cell (j := 1) hk_1 rfl
    have cwb0_2 : wb0.cell? ⟨g, k * 3 + 2, none⟩ = some (.bool e.d.f2) := s_1.cell (j := 2) hk_1 rfl
    have zwb0_2 : wb0.frozen? ⟨g, k * 3 + 2, none⟩ = false := s_1.thaw _
    have r1 := SGrid.row (j := 1) s_1 hk_1 (v := e.u1) (it := (e.d.f1.length, rows oneI e.d.f1)) rfl rfl
    go_wp2_with fail
    refine (inMarkInt64S base e.u1 e.d.f1.length ((k0 + (p : Int)) + ((e.d.f0.length : Nat) : Int)) _ _ r1 (by omega) (by omega) (by omega)).mono ?_
    rintro z wb1 ⟨rfl, ow1, gr1⟩
    have st_2 := SGrid.mark (k := k) (j := 1) (e' := (⟨⟨runI ((k0 + (p : Int))) e.d.f0.length, runI ((k0 + (p : Int)) + ((e.d.f0.length : Nat) : Int)) e.d.f1.length, e.d.f2⟩, e.u0, e.u1⟩ : EMarkovRule)) s_1 hk_1 (v := e.u1) (it := (e.d.f1.length, rows oneI e.d.f1)) rfl rfl gr1 ow1 rfl rfl (by show EMarkovRule.its _ = (EMarkovRule.its _).set 1 _; simp only [EMarkovRule.its, runI_len, rows_runI]; rfl) (by decide)
    have s_2 : SGrid kndMarkovRule base hi 117 2 1 (.slice (some ⟨g, 0, none⟩) n cap) ((markL widMarkovRule mkMarkovRule k0 (es.take k) ++ es.drop k).set k (⟨⟨runI ((k0 + (p : Int))) e.d.f0.length, runI ((k0 + (p : Int)) + ((e.d.f0.length : Nat) : Int)) e.d.f1.length, e.d.f2⟩, e.u0, e.u1⟩ : EMarkovRule)) (wb1) := by have := st_2.1; rw [set_set'] at this; exact this
    have t_2 : Touch base hi w wb1 := t_1.trans st_2.2
    have hk_2 : ((markL widMarkovRule mkMarkovRule k0 (es.take k) ++ es.drop k).set k (⟨⟨runI ((k0 + (p : Int))) e.d.f0.length, runI ((k0 + (p : Int)) + ((e.d.f0.length : Nat) : Int)) e.d.f1.length, e.d.f2⟩, e.u0, e.u1⟩ : EMarkovRule))[k]? = some (⟨⟨runI ((k0 + (p : Int))) e.d.f0.length, runI ((k0 + (p : Int)) + ((e.d.f0.length : Nat) : Int)) e.d.f1.length, e.d.f2⟩, e.u0, e.u1⟩ : EMarkovRule) := get_set' hk_0 _
    clear st_2 r1 ow1 gr1
    have cwb1_2 : wb1.cell? ⟨g, k * 3 + 2, none⟩ = some (.bool e.d.f2) := s_2.cell (j := 2) hk_2 rfl
    have zwb1_2 : wb1.frozen? ⟨g, k * 3 + 2, none⟩ = false := s_2.thaw _
    have st_3 := SGrid.store (k := k) (j := 2) (e' := (⟨⟨runI ((k0 + (p : Int))) e.d.f0.length, runI ((k0 + (p : Int)) + ((e.d.f0.length : Nat) : Int)) e.d.f1.length, (((k0 + (p : Int)) + ((e.d.f0.length : Nat) : Int) + ((e.d.f1.length : Nat) : Int)) % 3 == 0)⟩, e.u0, e.u1⟩ : EMarkovRule)) (u := .bool ((((k0 + (p : Int)) + ((e.d.f0.length : Nat) : Int) + ((e.d.f1.length : Nat) : Int)) % 3 == 0))) s_2 hk_2 (by decide) rfl rfl rfl (by decide)
    have s_3 : SGrid kndMarkovRule base hi 117 2 1 (.slice (some ⟨g, 0, none⟩) n cap) ((markL widMarkovRule mkMarkovRule k0 (es.take k) ++ es.drop k).set k (⟨⟨runI ((k0 + (p : Int))) e.d.f0.length, runI ((k0 + (p : Int)) + ((e.d.f0.length : Nat) : Int)) e.d.f1.length, (((k0 + (p : Int)) + ((e.d.f0.length : Nat) : Int) + ((e.d.f1.length : Nat) : Int)) % 3 == 0)⟩, e.u0, e.u1⟩ : EMarkovRule)) ((wb1).setCell ⟨g, k * 3 + 2, none⟩ (.bool ((((k0 + (p : Int)) + ((e.d.f0.length : Nat) : Int) + ((e.d.f1.length : Nat) : Int)) % 3 == 0)))) := by have := st_3.1; rw [set_set'] at this; exact this
    have t_3 : Touch base hi w ((wb1).setCell ⟨g, k * 3 + 2, none⟩ (.bool ((((k0 + (p : Int)) + ((e.d.f0.length : Nat) : Int) + ((e.d.f1.length : Nat) : Int)) % 3 == 0)))) := t_2.trans st_3.2
    have hk_3 : ((markL widMarkovRule mkMarkovRule k0 (es.take k) ++ es.drop k).set k (⟨⟨runI ((k0 + (p : Int))) e.d.f0.length, runI ((k0 + (p : Int)) + ((e.d.f0.length : Nat) : Int)) e.d.f1.length, (((k0 + (p : Int)) + ((e.d.f0.length : Nat) : Int) + ((e.d.f1.length : Nat) : Int)) % 3 == 0)⟩, e.u0, e.u1⟩ : EMarkovRule))[k]? = some (⟨⟨runI ((k0 + (p : Int))) e.d.f0.length, runI ((k0 + (p : Int)) + ((e.d.f0.length : Nat) : Int)) e.d.f1.length, (((k0 + (p : Int)) + ((e.d.f0.length : Nat) : Int) + ((e.d.f1.length : Nat) : Int)) % 3 == 0)⟩, e.u0, e.u1⟩ : EMarkovRule) := get_set' hk_0 _
    clear st_3
    have HN : Hid (SGrid kndMarkovRule base hi 117 2 1 (.slice (some ⟨g, 0, none⟩) n cap) (markL widMarkovRule mkMarkovRule k0 (es.take (k + 1)) ++ es.drop (k + 1)) ((wb1).setCell ⟨g, k * 3 + 2, none⟩ (.bool ((((k0 + (p : Int)) + ((e.d.f0.length : Nat) : Int) + ((e.d.f1.length : Nat) : Int)) % 3 == 0))))) := by
      have := markL_next widMarkovRule mkMarkovRule HX.out k0 (e' := (⟨⟨runI ((k0 + (p : Int))) e.d.f0.length, runI ((k0 + (p : Int)) + ((e.d.f0.length : Nat) : Int)) e.d.f1.length, (((k0 + (p : Int)) + ((e.d.f0.length : Nat) : Int) + ((e.d.f1.length : Nat) : Int)) % 3 == 0)⟩, e.u0, e.u1⟩ : EMarkovRule)) (by rw [← HP.out]; rfl)
      unfold Hid
      rw [← this]
      exact s_3
    have HTT := Lib.hid t_3
    clear s_0 s_1 s_2 s_3 t_1 t_2 t_3 hk_0 hk_1 hk_2 hk_3
    go_wp2_with fail
    go_roundw
    case rel => exact ⟨k + 1, by omega, by go_num, by rw [HC1.out]; congr 1; omega, HN, HTT.out⟩
    case measure => simp [intOf]; omega

set_option maxRecDepth 100000 in
set_option maxHeartbeats 2000000 in
theorem heldMarkovRuleS_any (base hi : Nat) (V : Value) (es : List EMarkovRule) (k0 : Int) (w : World) (hg : SGrid kndMarkovRule base hi 117 2 1 V (markL widMarkovRule mkMarkovRule k0 es) w) (hk0 : 0 ≤ k0) (hk1 : k0 + (widSum widMarkovRule es : Nat) ≤ 1099511627776) (hn : es.length ≤ 4194304) (hit : ∀ e ∈ es, wlMarkovRule e.d ≤ 4194304) :
    Calls Try.prog 37 #[V, .int .i64 k0] w fun z w' => z = .returned (.int .i64 (k0 + (widSum widMarkovRule es : Nat))) ∧ w = w' := by
  obtain ⟨n, hnn⟩ : ∃ n, n = es.length := ⟨_, rfl⟩
  have HL : Hid (es.length = n) := hnn.symm
  rw [← hnn] at hn
  clear hnn
  have HTL := Lib.hid hit; clear hit
  have hml : (markL widMarkovRule mkMarkovRule k0 es).length = n := by rw [length_markL, HL.out]
  rcases Nat.eq_zero_or_pos n with hz | hz
  · subst hz
    have he : es = [] := List.eq_nil_of_length_eq_zero HL.out
    subst he
    obtain ⟨A, cap, rfl⟩ := own_form hg.own
    clear hg
    go_enter Try.func37, Try.ntmps37
    go_wp2
    refine wp_loop_rounds 1 ?_
    rw [rounds_succ]
    go_wp2
    go_ret
    exact ⟨by simp [widSum], rfl⟩
  obtain ⟨g, cap, rfl⟩ := hg.addr hml hz
  obtain ⟨tt, htt⟩ : ∃ t, t = widSum widMarkovRule es := ⟨_, rfl⟩
  rw [← htt] at hk1
  have HT := Lib.hid htt; clear htt
  have HG := Lib.hid hg; clear hg hml
  go_enter Try.func37, Try.ntmps37
  go_wp2
  go_loop [1, 5] (fun kk i => ∃ k : Nat, k ≤ n ∧ i = .int .i64 k ∧ kk = .int .i64 (k0 + (widSum widMarkovRule (es.take k) : Nat))) (fun _ i => n - (intOf i).toNat)
  case atStart => exact ⟨0, Nat.zero_le _, rfl, by simp [widSum]⟩
  case round =>
    obtain ⟨k, hk, rfl, rfl⟩ := hrel
    by_cases hlt : k < n
    rotate_left
    · obtain rfl : n = k := by omega
      rw [List.take_of_length_le (by have := HL.out; omega)]
      go_wp2
      go_ret
      exact ⟨rfl, rfl⟩
    obtain ⟨e, HX⟩ := hget HL hlt
    have hkm := markL_at widMarkovRule mkMarkovRule HX.out k0
    have hc1 := widSum_take widMarkovRule HX.out
    have hc2 := widSum_le widMarkovRule es (k + 1)
    have hwe := widMarkovRule_eq e
    have hlen := HTL.out e (List.mem_of_getElem? HX.out)
    unfold wlMarkovRule at hlen
    obtain ⟨p, hp⟩ : ∃ p, p = widSum widMarkovRule (es.take k) := ⟨_, rfl⟩
    rw [← hp, hwe] at hc1
    rw [← hp] at hkm ⊢
    have hpt : p + (e.d.f0.length * 1 + e.d.f1.length * 1 + 1) ≤ tt := by have := HT.out; omega
    have HC1 := Lib.hid hc1
    have r0 := HG.out.row (j := 0) hkm (v := e.u0) (it := ((runI ((k0 + (p : Int))) e.d.f0.length).length, rows oneI (runI ((k0 + (p : Int))) e.d.f0.length))) rfl rfl
    simp only [runI_len, rows_runI] at r0
    obtain ⟨A0, c0, e0⟩ := own_form r0
    rw [e0] at r0
    have a0 := args_of_own r0
    clear r0
    have r1 := HG.out.row (j := 1) hkm (v := e.u1) (it := ((runI ((k0 + (p : Int)) + ((e.d.f0.length : Nat) : Int)) e.d.f1.length).length, rows oneI (runI ((k0 + (p : Int)) + ((e.d.f0.length : Nat) : Int)) e.d.f1.length))) rfl rfl
    simp only [runI_len, rows_runI] at r1
    obtain ⟨A1, c1, e1⟩ := own_form r1
    rw [e1] at r1
    have a1 := args_of_own r1
    clear r1
    have k_0 : w.cell? ⟨g, k * 3, none⟩ = some (e.u0) := HG.out.cell (j := 0) hkm rfl
    rw [e0] at k_0
    clear e0
    have k_1 : w.cell? ⟨g, k * 3 + 1, none⟩ = some (e.u1) := HG.out.cell (j := 1) hkm rfl
    rw [e1] at k_1
    clear e1
    have k_2 : w.cell? ⟨g, k * 3 + 2, none⟩ = some (.bool ((((k0 + (p : Int)) + ((e.d.f0.length : Nat) : Int) + ((e.d.f1.length : Nat) : Int)) % 3 == 0))) := HG.out.cell (j := 2) hkm rfl
    clear hp hc1 hc2 hwe hkm
    go_wp2_with fail
    refine (inHeldInt64S A0 e.d.f0.length c0 ((k0 + (p : Int))) _ a0 (by omega) (by omega) (by omega)).mono ?_
    rintro z w1 ⟨rfl, rfl⟩
    have nn0 : ¬ (k0 + (p : Int)) + ((e.d.f0.length : Nat) : Int) < 0 := by omega
    go_wp2_with fail
    refine (inHeldInt64S A1 e.d.f1.length c1 ((k0 + (p : Int)) + ((e.d.f0.length : Nat) : Int)) _ a1 (by omega) (by omega) (by omega)).mono ?_
    rintro z w1 ⟨rfl, rfl⟩
    have nn1 : ¬ (k0 + (p : Int)) + ((e.d.f0.length : Nat) : Int) + ((e.d.f1.length : Nat) : Int) < 0 := by omega
    go_wp2_with fail
    go_round
    case rel => exact ⟨k + 1, by omega, by go_num, by rw [HC1.out]; congr 1; omega⟩
    case measure => simp [intOf]; omega

theorem markMarkovRuleS_is (base hi : Nat) (V : Value) (es : List EMarkovRule) (k0 : Int) (q : Nat) (w : World) (hg : SGrid kndMarkovRule base hi 117 2 1 V es w) (hq : widSum widMarkovRule es = q) (hk0 : 0 ≤ k0) (hk1 : k0 + (q : Int) ≤ 1099511627776) (hn : es.length ≤ 4194304) (hit : ∀ e ∈ es, wlMarkovRule e.d ≤ 4194304) :
    Calls Try.prog 36 #[V, .int .i64 k0] w fun z w' => z = .returned (.int .i64 (k0 + (q : Int))) ∧ SGrid kndMarkovRule base hi 117 2 1 V (markL widMarkovRule mkMarkovRule k0 es) w' ∧ Touch base hi w w' := by
  subst hq
  exact markMarkovRuleS_any base hi V es k0 w hg hk0 hk1 hn hit

theorem heldMarkovRuleS_is (base hi : Nat) (V : Value) (es : List EMarkovRule) (k0 : Int) (q : Nat) (w : World) (hg : SGrid kndMarkovRule base hi 117 2 1 V (markL widMarkovRule mkMarkovRule k0 es) w) (hq : widSum widMarkovRule es = q) (hk0 : 0 ≤ k0) (hk1 : k0 + (q : Int) ≤ 1099511627776) (hn : es.length ≤ 4194304) (hit : ∀ e ∈ es, wlMarkovRule e.d ≤ 4194304) :
    Calls Try.prog 37 #[V, .int .i64 k0] w fun z w' => z = .returned (.int .i64 (k0 + (q : Int))) ∧ w = w' := by
  subst hq
  exact heldMarkovRuleS_any base hi V es k0 w hg hk0 hk1 hn hit

theorem eqMarkovRuleS_is (A B : Option Addr) (n m c d : Nat) (es gs : List EMarkovRule) (xs : List DMarkovRule) (w : World) (ha : Args 3 w A n (rows EMarkovRule.vs es)) (hra : RdsMarkovRule w es) (hb : Args 3 w B m (rows EMarkovRule.vs gs)) (hrb : RdsMarkovRule w gs) (he : es.map (·.d) = xs) (hg : gs.map (·.d) = xs) (hn : n ≤ 4194304) (hm : m ≤ 4194304) (hx : sumMarkovRule xs ≤ 4194304) :
    Calls Try.prog 33 #[.slice A n c, .slice B m d] w fun z w' => z = .returned (.bool true) ∧ Below w.heap.size w w' := by
  refine (eqMarkovRuleS_any A B n m c d es gs w ha hra hb hrb hn hm (by rw [he]; exact hx) (by rw [hg]; exact hx)).mono ?_
  rintro z w' ⟨rfl, hb⟩
  exact ⟨ret_bool (by rw [he, hg]; simp), hb⟩

theorem widSumMarkovRule_of {es : List EMarkovRule} {xs : List DMarkovRule} (h : es.map (·.d) = xs) : widSum widMarkovRule es = 1 * xs.length + sumMarkovRule xs * 1 := by
  subst h
  induction es with
  | nil => simp [widSum, sumMarkovRule]
  | cons e l ih =>
    simp only [widSum, sumMarkovRule, widMarkovRule, List.map_cons, List.sum_cons, List.length_cons] at ih ⊢
    rw [ih]
    omega
theorem lensMarkovRule {es : List EMarkovRule} {xs : List DMarkovRule} (h : es.map (·.d) = xs) {m : Nat} (hm : sumMarkovRule xs ≤ m) : ∀ e ∈ es, wlMarkovRule e.d ≤ m := by
  intro e he
  have h1 : e.d ∈ xs := by rw [← h]; exact List.mem_map_of_mem he
  obtain ⟨k, hk⟩ := List.getElem?_of_mem h1
  exact Nat.le_trans (sumMarkovRule_at hk) hm

end Go.Proofs.Ytcfkjigapnknnaa

/- The Markov rules of a tag system: plain lemmas. -/
namespace Go.Proofs.Ytcfkjigapnknnaa
set_option linter.all false

/-- 0 .. n - 1. -/
def ltrs (n : Nat) : List Int := (List.range n).map fun (a : Nat) => (a : Int)
/-- All words of a length over n letters, as the program makes them. -/
def wordsN (n : Nat) : Nat → List (List Int)
  | 0 => [[]]
  | l + 1 => (wordsN n l).flatMap fun w => (ltrs n).map fun a => w ++ [a]
/-- The same, by the first letter. -/
def wordsC (n : Nat) : Nat → List (List Int)
  | 0 => [[]]
  | l + 1 => (ltrs n).flatMap fun a => (wordsC n l).map fun w => a :: w
theorem wordsC_eq (n : Nat) : ∀ l, wordsC n l = wordsN n l := by
  have h : ∀ l, wordsC n (l + 1) = (wordsC n l).flatMap fun w => (ltrs n).map fun a => w ++ [a] := by
    intro l
    induction l with
    | zero => simp [wordsC]; 
              induction ltrs n with
              | nil => rfl
              | cons a t ih => simp [List.flatMap_cons, ih]
    | succ l ih =>
      rw [wordsC]
      conv => rhs; rw [wordsC]
      rw [List.flatMap_assoc]
      congr 1
      funext a
      rw [ih, List.map_flatMap, List.flatMap_map]
      congr 1
      funext w
      rw [List.map_map]
      rfl
  intro l
  induction l with
  | zero => rfl
  | succ l ih => rw [h, ih]; rfl
/-- The word behind a word; nothing behind the last. -/
def nextW (n : Nat) : List Int → Option (List Int)
  | [] => none
  | a :: x => match nextW n x with
    | some y => some (a :: y)
    | none => if a = (n : Int) - 1 then none else some ((a + 1) :: List.replicate x.length 0)
theorem nextW_len (n : Nat) : ∀ (x y : List Int), nextW n x = some y → y.length = x.length := by
  intro x
  induction x with
  | nil => intro y h; cases h
  | cons a x ih =>
    intro y h
    rw [nextW] at h
    cases hx : nextW n x with
    | some z => rw [hx] at h; injection h with h; subst h; simp [ih z hx]
    | none =>
      rw [hx] at h
      simp only at h
      split at h
      · cases h
      · injection h with h; subst h; simp
/-- A list goes on word by word from x, and behind its last word there is none. -/
inductive ChainW (n : Nat) : List Int → List (List Int) → Prop
  | last {x : List Int} (h : nextW n x = none) : ChainW n x [x]
  | step {x y : List Int} {l : List (List Int)} (h : nextW n x = some y) (t : ChainW n y l) : ChainW n x (x :: l)
theorem chain_map {n : Nat} {a : Int} : ∀ {x : List Int} {l : List (List Int)}, ChainW n x l → ∀ {m : List (List Int)}, (a = (n : Int) - 1 → m = []) → (¬ a = (n : Int) - 1 → ChainW n ((a + 1) :: List.replicate x.length 0) m) → ChainW n (a :: x) (l.map (a :: ·) ++ m) := by
  intro x l h
  induction h with
  | @last x h =>
    intro m h1 h2
    by_cases ha : a = (n : Int) - 1
    · rw [h1 ha]; exact .last (by rw [nextW, h]; simp [ha])
    · exact .step (by rw [nextW, h]; simp [ha]) (h2 ha)
  | @step x y l h t ih =>
    intro m h1 h2
    refine .step (y := a :: y) (by rw [nextW, h]) (ih h1 fun ha => ?_)
    rw [nextW_len n x y h]; exact h2 ha
theorem chain_words (n : Nat) (hn : 0 < n) : ∀ l, ChainW n (List.replicate l 0) (wordsC n l) := by
  intro l
  induction l with
  | zero => exact .last rfl
  | succ l ih =>
    have main : ∀ (k a : Nat), a + k + 1 = n → ChainW n ((a : Int) :: List.replicate l 0) (((List.range' a (k + 1)).map fun (a : Nat) => (a : Int)).flatMap fun a => (wordsC n l).map fun w => a :: w) := by
      intro k
      induction k with
      | zero =>
        intro a ha
        have := chain_map (a := (a : Int)) ih (m := []) (fun _ => rfl) (fun h => absurd (by omega) h)
        simpa using this
      | succ k ihk =>
        intro a ha
        rw [List.range'_succ, List.map_cons, List.flatMap_cons]
        refine chain_map ih (fun h => by omega) (fun _ => ?_)
        rw [List.length_replicate]
        have := ihk (a + 1) (by omega)
        rwa [Int.natCast_add] at this
    have := main (n - 1) 0 (by omega)
    rw [show n - 1 + 1 = n by omega] at this
    rw [wordsC, ltrs, List.range_eq_range']
    exact this
end Go.Proofs.Ytcfkjigapnknnaa

/- areWords: whether all of some lists are words. -/
namespace Go.Proofs.Ytcfkjigapnknnaa
open Go.RowKit
set_option linter.all false

/-- Slices of numbers in the cells of another slice. -/
def Wds (w : World) (vs : List Value) (ts : List (List Int)) : Prop :=
  vs.length = ts.length ∧ ∀ (j : Nat) (v : Value) (t : List Int), vs[j]? = some v → ts[j]? = some t → ∃ b off c, v = .slice (some ⟨b, off, none⟩) t.length c ∧ Sl w b off (t.map (.int .i64)) ∧ t.length ≤ 4194304
theorem Wds.below {w w' : World} {vs : List Value} {ts : List (List Int)} (h : Wds w vs ts) (hb : Below w.heap.size w w') : Wds w' vs ts :=
  ⟨h.1, fun j v t h1 h2 => by obtain ⟨b, off, c, e, hs, hl⟩ := h.2 j v t h1 h2; exact ⟨b, off, c, e, hs.below' hb, hl⟩⟩

theorem notWord_any (b off n c : Nat) (t : List Int) (v : Bool) (hv : isWordB t = v) (w : World) (hs : Sl w b off (t.map (.int .i64))) (hl : t.length = n) (hn : n ≤ 4194304) :
    Calls Try.prog 155 #[.slice (some ⟨b, off, none⟩) n c] w fun e w' => e = .returned (.bool (!v)) ∧ w = w' := by
  have HL := Lib.hid hl; have HV := Lib.hid hv
  clear hl hv
  go_enter Try.func155, Try.ntmps155
  go_wp2_with fail
  refine (isWord_is b off n c t v HV.out _ hs HL.out hn).mono ?_
  rintro e w' ⟨rfl, rfl⟩
  go_wp2_with fail
  go_ret
  exact ⟨rfl, rfl⟩

set_option maxRecDepth 100000 in
theorem indexNotWord_any (g off m c : Nat) (vs : List Value) (ts : List (List Int)) (w : World) (hs : Sl w g off vs) (hv : Wds w vs ts) (hm : ts.length = m) (hl : m ≤ 1048576) :
    Calls Try.prog 176 #[.slice (some ⟨g, off, none⟩) m c, .func (.func 155) #[] #[]] w fun e w' =>
      (∃ z : Int, e = .returned (.int .i64 z) ∧ (decide (0 ≤ z) = !(ts.all isWordB))) ∧ w = w' := by
  have HM := Lib.hid hm
  clear hm
  go_enter Try.func176, Try.ntmps176
  go_wp2_with fail
  go_loop [8] (fun i => ∃ k : Nat, k ≤ m ∧ i = .int .i64 k ∧ Hid (∀ j t, j < k → ts[j]? = some t → isWordB t = true)) (fun i => m - (intOf i).toNat)
  case atStart => exact ⟨0, Nat.zero_le _, rfl, by intro j t hj; omega⟩
  case round =>
    obtain ⟨k, hk, rfl, HR⟩ := hrel
    by_cases hlt : k < m
    · obtain ⟨v, hv1⟩ : ∃ v, vs[k]? = some v := ⟨_, List.getElem?_eq_getElem (by have := hv.1; have := HM.out; omega)⟩
      obtain ⟨t, ht1⟩ : ∃ t, ts[k]? = some t := ⟨_, List.getElem?_eq_getElem (by have := HM.out; omega)⟩
      obtain ⟨b, o, c1, rfl, hsl, hn⟩ := hv.2 k v t hv1 ht1
      have hca := hs.at hv1
      have HT := Lib.hid ht1
      clear hv1 ht1
      rcases Bool.eq_false_or_eq_true (isWordB t) with hb | hb
      · have HB := Lib.hid hb; clear hb
        go_wp2_with (go_at_call 155; refine (notWord_any b o t.length c1 t true HB.out _ hsl rfl hn).mono ?_; rintro e w' ⟨rfl, rfl⟩)
        go_round
        case rel => exact ⟨k + 1, by omega, by go_num, by
          intro j t' hj ht'
          by_cases ej : j = k
          · subst ej
            have h2 := HT.out
            rw [ht'] at h2; injection h2 with h2; subst h2; exact HB.out
          · exact HR.out j t' (by omega) ht'⟩
        case measure => simp [intOf]; omega
      · have HB := Lib.hid hb; clear hb
        go_wp2_with (go_at_call 155; refine (notWord_any b o t.length c1 t false HB.out _ hsl rfl hn).mono ?_; rintro e w' ⟨rfl, rfl⟩)
        go_ret
        refine ⟨⟨_, rfl, ?_⟩, rfl⟩
        have hf : ts.all isWordB = false := by
          rw [Bool.eq_false_iff]; intro hall
          have := List.all_eq_true.1 hall t (List.mem_of_getElem? HT.out)
          rw [HB.out] at this; cases this
        rw [hf]; simp
    · go_wp2_with fail
      go_ret
      refine ⟨⟨_, rfl, ?_⟩, rfl⟩
      have hf : ts.all isWordB = true := by
        rw [List.all_eq_true]
        intro t ht
        obtain ⟨j, hj⟩ := List.getElem?_of_mem ht
        exact HR.out j t (by have := HM.out; have := (List.getElem?_eq_some_iff.1 hj).1; omega) hj
      rw [hf]; rfl

theorem areWords_is (g off m c : Nat) (vs : List Value) (ts : List (List Int)) (r : Bool) (hr : ts.all isWordB = r) (w : World) (hs : Sl w g off vs) (hv : Wds w vs ts) (hm : ts.length = m) (hl : m ≤ 1048576) :
    Calls Try.prog 117 #[.slice (some ⟨g, off, none⟩) m c] w fun e w' => e = .returned (.bool r) ∧ w = w' := by
  have HM := Lib.hid hm; have HR := Lib.hid hr
  clear hm hr
  have hcont : Calls Try.prog 154 #[.slice (some ⟨g, off, none⟩) m c, .func (.func 155) #[] #[]] w fun e w' => e = .returned (.bool (!r)) ∧ w = w' := by
    go_enter Try.func154, Try.ntmps154
    go_wp2_with fail
    refine (indexNotWord_any g off m c vs ts w hs hv HM.out hl).mono ?_
    rintro e w' ⟨⟨z, rfl, hz⟩, rfl⟩
    rw [HR.out] at hz
    go_wp2_with fail
    go_ret
    exact ⟨ret_bool (by first | exact hz | simpa using hz), rfl⟩
  have HC := Lib.hid hcont
  clear hcont
  go_enter Try.func117, Try.ntmps117
  go_wp2_with fail
  refine HC.out.mono ?_
  rintro e w' ⟨rfl, rfl⟩
  go_wp2_with fail
  go_ret
  exact ⟨ret_bool (by simp), rfl⟩
end Go.Proofs.Ytcfkjigapnknnaa

/- slices.Grow of the nil slice and slices.Concat, elements int64. -/
namespace Go.Proofs.Ytcfkjigapnknnaa
open Go.RowKit
set_option linter.all false

set_option maxRecDepth 100000 in
theorem growNilInt64S_any (n : Nat) (w : World) (hn : n ≤ 8388608) :
    Calls Try.prog 177 #[.slice none 0 0, .int .i64 n] w fun e w' => ∃ v, e = .returned v ∧ w'.ownsRow w.heap.size 2 1 v 0 [] ∧ Below w.heap.size w w' ∧ (v = .slice none 0 0 → n = 0) := by
  obtain ⟨i0, hi, hz0, hz1, hz2⟩ := info_parts infoInt64S
  rcases Nat.eq_zero_or_pos n with h0 | h0
  · subst h0
    clear hi hz0 hz1 hz2
    go_enter Try.func177, Try.ntmps177
    go_wp2_with fail
    go_ret
    exact ⟨_, rfl, World.ownsRow_nil _ _ _ _, Below.refl _ _, fun _ => by first | rfl | trivial⟩
  · have happ := Lib.run_append_nil_zeros (P := Try.prog) w 25 3 25 2 i0 (Value.int .i64 0) .i64 .i64 Try.underlying25 Try.underlying3 hi hz0 n h0 (by omega) (by omega) (by rw [hz2]; omega)
    have hge := grownCap_ge w n 0 2
    have hle := grownCap_le_maxLen w n 0 2 (by unfold maxLen; omega)
    generalize grownCap w n 0 2 = cap at *
    have HP := Lib.hid happ
    have hzs : ∀ k, (Builtin.zeroCells (Value.cells (Value.int .i64 0)) n ++ Builtin.zeroCells (Value.cells (Value.int .i64 0)) (cap - n)).size = k * 1 ↔ k = cap := by
      intro k; simp [size_zeroCells, Value.cells]; omega
    generalize (Builtin.zeroCells (Value.cells (Value.int .i64 0)) n ++ Builtin.zeroCells (Value.cells (Value.int .i64 0)) (cap - n)) = Z at *
    have HZ : Hid (Z.size = cap * 1) := (hzs cap).2 rfl
    clear happ hi hz0 hz1 hz2 hzs
    unfold maxLen at hle
    go_enter Try.func177, Try.ntmps177
    go_wp2_with (at_builtin; refine Lib.wpList_append_run _ rfl _ _ _ _ rfl _ _ rfl rfl _ _ HP.out ?_)
    go_ret
    refine ⟨_, rfl, World.ownsRow_made w.drew Z cap (Nat.le_refl _) (by unfold maxLen; omega) HZ.out, (laid_below w _).drew, fun e => by cases e⟩

/-- Slices in the cells of another one. -/
def SrcsInt64S (w : World) (vs : List Value) (ns : List Nat) (xss : List (List Value)) : Prop :=
  vs.length = xss.length ∧ vs.length = ns.length ∧ ∀ (j : Nat) (v : Value) (n : Nat) (xs : List Value), vs[j]? = some v → ns[j]? = some n → xss[j]? = some xs → Src 1 w v n xs ∧ ∀ u ∈ xs, u.oneCell' = true
theorem SrcsInt64S.below {w w' : World} {vs : List Value} {ns : List Nat} {xss : List (List Value)} (h : SrcsInt64S w vs ns xss) (hb : Below w.heap.size w w') : SrcsInt64S w' vs ns xss :=
  ⟨h.1, h.2.1, fun j v n xs h1 h2 h3 => ⟨(h.2.2 j v n xs h1 h2 h3).1.below hb, (h.2.2 j v n xs h1 h2 h3).2⟩⟩

theorem sum_take_le (ns : List Nat) (k : Nat) : (ns.take k).sum ≤ ns.sum := by
  induction ns generalizing k with
  | nil => simp
  | cons n ns ih =>
    cases k with
    | zero => simp
    | succ k => simp; exact ih k
theorem sum_take_succ (ns : List Nat) (k n : Nat) (h : ns[k]? = some n) : (ns.take (k + 1)).sum = (ns.take k).sum + n := by
  rw [List.take_add_one, h]; simp

set_option maxRecDepth 100000 in
set_option maxHeartbeats 1000000 in
theorem concatInt64S_any (g off c : Nat) (vs : List Value) (ns : List Nat) (xss : List (List Value)) (w : World) (hs : Sl w g off vs) (hv : SrcsInt64S w vs ns xss) (hn : ns.sum ≤ 8388608) (hl : ns.length ≤ 1000) :
    Calls Try.prog 158 #[.slice (some ⟨g, off, none⟩) ns.length c] w fun e w' => ∃ v, e = .returned v ∧ w'.ownsRow w.heap.size 2 1 v ns.sum xss.flatten ∧ Below w.heap.size w w' ∧ (v = .slice none 0 0 → ns.sum = 0) := by
  obtain ⟨m, hm⟩ : ∃ m, m = ns.length := ⟨_, rfl⟩
  rw [← hm] at hl ⊢
  have HM := Lib.hid hm
  clear hm
  go_enter Try.func158, Try.ntmps158
  go_wp2_with fail
  go_loop [3, 11] (fun sz i => ∃ k s : Nat, k ≤ m ∧ i = .int .i64 k ∧ sz = .int .i64 s ∧ s ≤ 8388608 ∧ Hid (s = (ns.take k).sum)) (fun _ i => m - (intOf i).toNat)
  case atStart => exact ⟨0, 0, Nat.zero_le _, rfl, rfl, by omega, by simp [Hid]⟩
  case round =>
    obtain ⟨k, s, hk, rfl, rfl, hs8, HS⟩ := hrel
    by_cases hlt : k < m
    · obtain ⟨v, hv1⟩ : ∃ v, vs[k]? = some v := ⟨_, List.getElem?_eq_getElem (by have := hv.2.1; have := HM.out; omega)⟩
      obtain ⟨n1, hn1⟩ : ∃ n1, ns[k]? = some n1 := ⟨_, List.getElem?_eq_getElem (by have := HM.out; omega)⟩
      obtain ⟨x1, hx1⟩ : ∃ x1, xss[k]? = some x1 := ⟨_, List.getElem?_eq_getElem (by have := hv.1; have := hv.2.1; have := HM.out; omega)⟩
      obtain ⟨hsrc, _⟩ := hv.2.2 k v n1 x1 hv1 hn1 hx1
      have hca := hs.at hv1
      obtain ⟨A, c1, rfl⟩ := hsrc.form
      have hsum : (ns.take k).sum + n1 ≤ 8388608 := by rw [← sum_take_succ ns k n1 hn1]; exact Nat.le_trans (sum_take_le _ _) hn
      have hle : s + n1 ≤ 8388608 := by rw [HS.out]; exact hsum
      have HN := Lib.hid hn1
      clear hv1 hn1 hx1 hsum hsrc
      go_wp2_with fail
      go_round
      case rel => exact ⟨k + 1, s + n1, by omega, by go_num, by go_num, hle, by rw [HS.out, sum_take_succ ns k n1 HN.out]; rfl⟩
      case measure => simp [intOf]; omega
    · have hkm : k = m := by omega
      have HS2 : Hid (s = ns.sum) := by have := HS.out; rw [hkm, HM.out, List.take_length] at this; exact this
      clear hkm
      go_wp2_with fail
      refine (growNilInt64S_any s w hs8).mono ?_
      rintro e w1 ⟨v1, rfl, hown1, hB1, hnil1⟩
      have HNIL := Lib.hid hnil1
      clear hnil1
      go_wp2_with fail
      go_loopw [6, 27] (fun v i wr => ∃ k : Nat, k ≤ m ∧ i = .int .i64 k ∧ wr.ownsRow w.heap.size 2 1 v (ns.take k).sum (xss.take k).flatten ∧ Below w.heap.size w wr ∧ Hid (v = .slice none 0 0 → s = 0)) (fun _ i _ => m - (intOf i).toNat)
      case atStart => exact ⟨0, Nat.zero_le _, rfl, by simpa using hown1, hB1, HNIL.out⟩
      case round =>
        obtain ⟨k, hk, rfl, hown, hB, HV⟩ := hrel
        by_cases hlt : k < m
        · obtain ⟨v, hv1⟩ : ∃ v, vs[k]? = some v := ⟨_, List.getElem?_eq_getElem (by have := hv.2.1; have := HM.out; omega)⟩
          obtain ⟨n1, hn1⟩ : ∃ n1, ns[k]? = some n1 := ⟨_, List.getElem?_eq_getElem (by have := HM.out; omega)⟩
          obtain ⟨x1, hx1⟩ : ∃ x1, xss[k]? = some x1 := ⟨_, List.getElem?_eq_getElem (by have := hv.1; have := hv.2.1; have := HM.out; omega)⟩
          obtain ⟨hsrc, hone⟩ := (hv.below hB).2.2 k v n1 x1 hv1 hn1 hx1
          have hca := (hs.below' hB).at hv1
          have hsum : (ns.take k).sum + n1 ≤ 8388608 := by rw [← sum_take_succ ns k n1 hn1]; exact Nat.le_trans (sum_take_le _ _) hn
          have HN := Lib.hid hn1; have HX := Lib.hid hx1
          clear hv1 hn1 hx1
          go_wp2_with (at_builtin; refine wpList_appx rfl _ _ _ rfl Try.underlying25 infoInt64S rfl (by omega) w.heap.size hown hB.size rfl hsrc rfl hone (by unfold maxLen; omega) (by omega) ?_; intro v2 w2 hown2 hg2 hnil2; have hB2 := grown_below hB hown (Nat.le_refl _) hg2; have HNIL2 := Lib.hid hnil2; clear hnil2)
          go_roundw
          case rel => exact ⟨k + 1, by omega, by go_num, by rw [sum_take_succ ns k n1 HN.out, List.take_add_one, HX.out, List.flatten_append]; simpa using hown2, hB2, fun e => HV.out (HNIL2.out e).1⟩
          case measure => simp [intOf]; omega
        · have hkm : k = m := by omega
          have e1 : (ns.take k).sum = ns.sum := by rw [hkm, HM.out, List.take_length]
          have e2 : (xss.take k) = xss := by rw [hkm, HM.out, List.take_of_length_le (by have := hv.1; have := hv.2.1; omega)]
          rw [e1, e2] at hown
          clear hkm e1 e2
          go_wp2_with fail
          go_ret
          exact ⟨_, rfl, hown, hB, fun e => by have h1 := HV.out e; have h2 := HS2.out; omega⟩
end Go.Proofs.Ytcfkjigapnknnaa
