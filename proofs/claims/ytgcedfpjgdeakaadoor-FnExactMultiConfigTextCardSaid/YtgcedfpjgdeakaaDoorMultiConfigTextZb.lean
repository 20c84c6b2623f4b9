/- The law FnExactMultiConfigText returns true for every input, and each argument reads afterwards as before: the proof, part 2. No conditions. -/
import Derived.Test.YtgcedfpjgdeakaaDoorMultiConfigTextZa
import Derived.StillTailTactics
/- Words for library functions on rows: the first place where a test holds; a function value that can be entered; an empty row; a row in which one record turns. Plain lemmas. -/
namespace Go.Proofs.YtgcedfpjgdeakaaDoor
open Go.RowKit
set_option linter.all false

theorem cell_step {w w1 : World} {b o : Nat} {u : Value} (h : w.cell? ⟨b, o, none⟩ = some u) (hb : Below w.heap.size w w1) : w1.cell? ⟨b, o, none⟩ = some u :=
  (hb.cell (p := ⟨b, o, none⟩) (World.block_lt_of_cell? w _ h)).trans h
theorem alloc2 {wr w1 : World} {x y : Value} {t : TypeId} (h : wr.alloc (.cells #[x, y] t) = w1) :
    w1.cell? ⟨wr.heap.size, 0, none⟩ = some x ∧ w1.cell? ⟨wr.heap.size, 1, none⟩ = some y ∧ Below wr.heap.size wr w1 := by
  subst h
  exact ⟨by simp [go_sem], by simp [go_sem], laid_below _ _⟩
theorem alloc3 {wr w1 : World} {x y z : Value} {t : TypeId} (h : wr.alloc (.cells #[x, y, z] t) = w1) :
    w1.cell? ⟨wr.heap.size, 0, none⟩ = some x ∧ w1.cell? ⟨wr.heap.size, 1, none⟩ = some y ∧ w1.cell? ⟨wr.heap.size, 2, none⟩ = some z ∧ Below wr.heap.size wr w1 := by
  subst h
  exact ⟨by simp [go_sem], by simp [go_sem], by simp [go_sem], laid_below _ _⟩
theorem alloc4 {wr w1 : World} {x y z u : Value} {t : TypeId} (h : wr.alloc (.cells #[x, y, z, u] t) = w1) :
    w1.cell? ⟨wr.heap.size, 0, none⟩ = some x ∧ w1.cell? ⟨wr.heap.size, 1, none⟩ = some y ∧ w1.cell? ⟨wr.heap.size, 2, none⟩ = some z ∧ w1.cell? ⟨wr.heap.size, 3, none⟩ = some u ∧ Below wr.heap.size wr w1 := by
  subst h
  exact ⟨by simp [go_sem], by simp [go_sem], by simp [go_sem], by simp [go_sem], laid_below _ _⟩
theorem drop_at {α : Type} {xs : List α} {k : Nat} {x : α} (h : xs[k]? = some x) : xs.drop k = x :: xs.drop (k + 1) := by
  obtain ⟨hk, hx⟩ := List.getElem?_eq_some_iff.1 h
  rw [List.drop_eq_getElem_cons hk, hx]
theorem below_of_drew {B : Nat} {w w' : World} (h : Below B w.drew w') : Below B w w' := ⟨h.os, h.tape, h.output, h.size, h.block⟩
theorem below_drew_at {w w' : World} (h : Below w.drew.heap.size w.drew w') : Below w.heap.size w w' := ⟨h.os, h.tape, h.output, h.size, h.block⟩
theorem below_of_drewN {B n : Nat} {w w' : World} (h : Below B (w.drewN n) w') : Below B w w' := ⟨h.os, h.tape, h.output, h.size, h.block⟩

/-- A function that can be entered. -/
theorem enters_of' {P : Program} {f : FuncId} {fn : Func} {c : Code} (hf : P.funcs[f]? = some fn) (hname : (fn.name == "runtime.NumGoroutine") = false) (hb : fn.body = some c) (args : Array Value) (W : World) : (callFunc f args).run P W = .ok (.enter f args) W := by
  have h1 : fn.name ≠ "runtime.NumGoroutine" := by simpa using hname
  simp [callFunc, hf, h1, hb, mark]

/-- 's == nil' at a slice. -/
theorem run_nil_some {P : Program} {t e : TypeId} (ht : P.underlying t = some (.slice e)) (a : Addr) (n c : Nat) (w : World) : (binOp .eql t (.slice (some a) n c) (.slice none 0 0)).run P w = .ok (.bool false) w := by
  have h : ∀ d : Nat, (Op.equalIn (d + 1) t (.slice (some a) n c) (.slice none 0 0)).run P w = .ok false w := fun d => by simp [Op.equalIn, run_underlying ht]
  simp only [binOp]
  simp [Op.equal, Op.maxDepth, h 9999]
theorem run_nil_none {P : Program} {t e : TypeId} (ht : P.underlying t = some (.slice e)) (w : World) : (binOp .eql t (.slice none 0 0) (.slice none 0 0)).run P w = .ok (.bool true) w := by
  have h : ∀ d : Nat, (Op.equalIn (d + 1) t (.slice none 0 0) (.slice none 0 0)).run P w = .ok true w := fun d => by simp [Op.equalIn, run_underlying ht]
  simp only [binOp]
  simp [Op.equal, Op.maxDepth, h 9999]

/-- The first place where p holds, or -1. -/
def findI {α : Type} (p : α → Bool) (xs : List α) : Int := match xs.findIdx? p with | some k => k | none => -1
theorem findI_none {α : Type} {p : α → Bool} {xs : List α} (h : ∀ (j : Nat) x, xs[j]? = some x → p x = false) : findI p xs = -1 := by
  have : xs.findIdx? p = none := by
    rw [List.findIdx?_eq_none_iff]
    intro x hx
    obtain ⟨j, hj⟩ := List.getElem?_of_mem hx
    exact h j x hj
  simp [findI, this]
theorem findI_some {α : Type} {p : α → Bool} {xs : List α} {k : Nat} {x : α} (h : ∀ j y, j < k → xs[j]? = some y → p y = false) (hx : xs[k]? = some x) (hp : p x = true) : findI p xs = k := by
  have : xs.findIdx? p = some k := by
    obtain ⟨hk, e⟩ := List.getElem?_eq_some_iff.1 hx
    rw [List.findIdx?_eq_some_iff_getElem]
    refine ⟨hk, by rw [e]; exact hp, fun j hj => ?_⟩
    rw [h j _ hj (List.getElem?_eq_getElem (by omega))]
    simp
  simp [findI, this]
theorem findI_any {α : Type} (p : α → Bool) (xs : List α) : decide (0 ≤ findI p xs) = xs.any p := by
  unfold findI
  cases h : xs.findIdx? p with
  | none =>
    rw [List.findIdx?_eq_none_iff] at h
    have : xs.any p = false := by rw [List.any_eq_false]; intro x hx; simp [h x hx]
    rw [this]; rfl
  | some k =>
    rw [List.findIdx?_eq_some_iff_getElem] at h
    obtain ⟨hk, hp, _⟩ := h
    have : xs.any p = true := List.any_eq_true.2 ⟨_, List.getElem_mem hk, hp⟩
    rw [this]; simp

theorem own_empty (w : World) (e : TypeId) (s : Nat) : (w.alloc (.cells #[] e)).ownsRow w.heap.size e s (.slice (some ⟨w.heap.size, 0, none⟩) 0 0) 0 [] :=
  ⟨by simp, .inr ⟨w.heap.size, 0, #[], rfl, Nat.le_refl _, heap_alloc_new _ _, Nat.le_refl _, Nat.zero_le _, by simp, by simp⟩⟩
/-- A row that was just laid. -/
theorem own_laid (w : World) (e : TypeId) (s n : Nat) (cs : Array Value) (h : cs.size = n * s) (hm : n ≤ maxLen) : (w.alloc (.cells cs e)).ownsRow w.heap.size e s (.slice (some ⟨w.heap.size, 0, none⟩) n n) n cs.toList :=
  ⟨by simp [h], .inr ⟨w.heap.size, n, cs, rfl, Nat.le_refl _, heap_alloc_new _ _, Nat.le_refl _, hm, h, by rw [List.take_of_length_le (by simp [h])]⟩⟩
theorem Src.args {s n c : Nat} {w : World} {A : Option Addr} {xs : List Value} (h : Src s w (.slice A n c) n xs) : Args s w A n xs := by
  refine ⟨h.1, ?_⟩
  rcases h.2 with ⟨_, h0⟩ | ⟨b, off, c', hv, hs⟩
  · exact .inl h0
  · injection hv with h1 h2 h3; exact .inr ⟨b, off, h1, hs⟩
/-- Which part it is, as a source. -/
theorem src_part {α : Type} {f : α → List Value} {s : Nat} (hs : ∀ x, (f x).length = s) {w : World} {b off o' : Nat} {xs : List α} (h : Sl w b off (rows f xs)) (i m c : Nat) (ho : m = 0 ∨ o' = off + i * s) (hl : i + m ≤ xs.length) : Src s w (.slice (some ⟨b, o', none⟩) m c) m (rows f ((xs.drop i).take m)) := by
  have hlen : (rows f ((xs.drop i).take m)).length = m * s := by rw [rows_len hs, List.length_take, List.length_drop, Nat.min_eq_left (by omega)]
  rcases ho with h0 | rfl
  · subst h0
    refine ⟨hlen, .inr ⟨b, o', c, rfl, h.1, ?_⟩⟩
    intro j u hu
    simp [rows] at hu
  · exact Src.of_sl (h.part hs i m) hlen
/-- One cell of one record turns. -/
theorem rows_set {α : Type} {f : α → List Value} {s : Nat} (hs : ∀ x, (f x).length = s) {xs : List α} {k : Nat} {x : α} (y : α) {j : Nat} {u : Value} (hx : xs[k]? = some x) (hj : j < s) (hy : f y = (f x).set j u) : (rows f xs).set (k * s + j) u = rows f (xs.set k y) := by
  obtain ⟨hk, e⟩ := List.getElem?_eq_some_iff.1 hx
  have l1 : (rows f (xs.take k)).length = k * s := by rw [rows_len hs, List.length_take, Nat.min_eq_left (by omega)]
  have e1 : rows f xs = rows f (xs.take k) ++ (f x ++ rows f (xs.drop (k + 1))) := by
    conv => lhs; rw [← List.take_append_drop k xs, List.drop_eq_getElem_cons hk, e]
    simp [rows]
  have e2 : xs.set k y = xs.take k ++ y :: xs.drop (k + 1) := List.set_eq_take_append_cons_drop.trans (by rw [if_pos hk])
  rw [e1, e2, List.set_append_right _ _ (by omega), l1, Nat.add_sub_cancel_left, List.set_append_left _ _ (by rw [hs]; exact hj), ← hy]
  simp [rows]
section
variable {P : Program} {w : World}
theorem step_appx {ops : Array Oper} {o : Oper} {a : Act} {K : Act → World → Prop} {Q : Exit → Act → World → Prop} {E : Prop} (hgd : o.guard = none) (s x : Operand) (t : TypeId)
    (ho : o.op = .call { callee := .builtin .append, args := #[s, x], argTypes := #[t, t] })
    {e : TypeId} {z : Value} {size bytes : Nat} (ht : P.underlying t = some (.slice e)) (hinfo : (P.info? e).map (fun i => (i.zero, i.size, i.bytes)) = some (some z, size, bytes)) (hzs : z.cells.size = size) (hsz : 0 < size)
    (base : Nat) {v : Value} {n : Nat} {xs : List Value} (hown : w.ownsRow base e size v n xs) (hbase : base ≤ w.heap.size) (hs : a.eval s = v)
    {u : Value} {m : Nat} {ys : List Value} (hsrc : Src size w u m ys) (hx : a.eval x = u) (h1 : ∀ u ∈ ys, u.oneCell' = true) (h63 : n + m ≤ maxLen) (hbytes : (n + m) * bytes ≤ 140737488355328)
    (h : ∀ v' w', w'.ownsRow base e size v' (n + m) (xs ++ ys) → w.grownBy w' v.ownBlock → (v' = .slice none 0 0 → v = .slice none 0 0 ∧ m = 0) → K (a.put o.dst v') w') :
    if Region.wanted o (yielded ops a.tmps) = true then Oper.wp P o a w K Q else E := by
  have hw : Region.wanted o (yielded ops a.tmps) = true := by simp [Region.wanted, hgd]
  rw [if_pos hw]
  exact wp_appx s x t ho ht hinfo hzs hsz base hown hbase hs hsrc hx h1 h63 hbytes h
end
end Go.Proofs.YtgcedfpjgdeakaaDoor

/- Contracts of the laws' helpers on []int64: copy, compare, mark, look at the marks. For slices of at most 1048576 elements. -/
namespace Go.Proofs.YtgcedfpjgdeakaaDoor
open Go.RowKit

theorem infoInt64S : (Tryd.prog.info? 2).map (fun i => (i.zero, i.size, i.bytes)) = some (some (Value.int .i64 0), 1, 8) := by kernel_rfl

set_option maxHeartbeats 400000 in
theorem toInt64S_any (A : Option Addr) (n c : Nat) (xs : List Int) (w : World) (ha : Arg w A n (xs.map (Value.int .i64))) (hn : n ≤ 1048576) :
    Calls Tryd.prog 82 #[.slice A n c] w fun e w' => e = .returned (.slice (some ⟨w.heap.size, 0, none⟩) n n) ∧
      w'.ownsRow w.heap.size 2 1 (.slice (some ⟨w.heap.size, 0, none⟩) n n) n (xs.map (Value.int .i64)) ∧ Below w.heap.size w w' := by
  have hmk := fun W => run_make_row' (P := Tryd.prog) 82 2 (Value.int .i64 0) 8 Tryd.underlying82 infoInt64S rfl .i64 .i64 n (by omega) (by omega) W
  have hrow0 := World.rowIs_made w (Value.int .i64 0) n 2
  have hB0 : Below w.heap.size w (w.alloc (.cells (madeCells #[Value.int .i64 0] n) 2)) := (Below.refl _ _).alloc (Nat.le_refl _) _
  go_enter Tryd.func82, Tryd.ntmps82
  go_wp2
  clear hmk
  go_loopw [4] (fun i wr => ∃ k : Nat, k ≤ n ∧ i = .int .i64 k ∧ wr.rowIs w.heap.size 2 n (fun j => if j < k then (xs.map (Value.int .i64)).getD j undef else (Value.int .i64 0)) ∧ Below w.heap.size w wr) (fun i _ => n - (intOf i).toNat)
  case atStart => exact ⟨0, Nat.zero_le _, rfl, hrow0.congr (fun i _ => by simp), hB0⟩
  case round =>
    obtain ⟨k, hk, rfl, hrow, hB⟩ := hrel
    clear hrow0 hB0
    by_cases hlt : k < n
    · obtain ⟨b, off, rfl, hs⟩ := ha.sl hlt
      obtain ⟨x, HX, hx⟩ := map_at (Value.int .i64) xs (k := k) (by have := ha.1; simp at this; omega)
      have hca := (hs.below' hB).at hx
      have hco : wr.cell? ⟨w.heap.size, k, none⟩ = some (Value.int .i64 0) := by simpa using hrow.cell hlt
      have hfo := hrow.frozen k
      have HR := Lib.hid (hrow.set k ((Value.int .i64) x))
      have HB := Lib.hid (hB.setCell (p := ⟨w.heap.size, k, none⟩) (Nat.le_refl _) ((Value.int .i64) x))
      clear hx hrow hB ha hs
      go_wp2
      go_roundw
      case rel =>
        refine ⟨k + 1, by omega, by go_num, HR.out.congr (fun i hi => ?_), HB.out⟩
        exact upd_at ((Value.int .i64)) xs k i x HX.out _
      case measure => simp [intOf]; omega
    · go_wp2
      go_ret
      have hlen := ha.1
      refine ⟨rfl, own_of_rowIs hrow (Nat.le_refl _) (by unfold maxLen; omega) hlen (fun j u hu => ?_), hB⟩
      have hj : j < n := by rw [← hlen]; exact (List.getElem?_eq_some_iff.1 hu).1
      rw [if_pos (by omega), List.getD_eq_getElem?_getD, hu]; rfl

set_option maxHeartbeats 400000 in
theorem eqInt64S_any (A B : Option Addr) (n m c d : Nat) (xs ys : List Int) (w : World) (ha : Arg w A n (xs.map (Value.int .i64))) (hb : Arg w B m (ys.map (Value.int .i64))) (hn : n ≤ 4194304) (hm : m ≤ 4194304) :
    Calls Tryd.prog 91 #[.slice A n c, .slice B m d] w fun e w' => e = .returned (.bool (decide (xs = ys))) ∧ ∃ q, w' = w.drewN q := by
  have HA := Lib.hid ha.1
  have HB := Lib.hid hb.1
  by_cases hnm : n = m
  · subst hnm
    go_enter Tryd.func91, Tryd.ntmps91
    go_wp2
    go_loopw [5] (fun i wr => ∃ k q : Nat, k ≤ n ∧ i = .int .i64 k ∧ wr = w.drewN q ∧ Hid (xs.take k = ys.take k)) (fun i _ => n - (intOf i).toNat)
    case atStart => exact ⟨0, 0, Nat.zero_le _, rfl, rfl, rfl⟩
    case round =>
      obtain ⟨k, q, hk, rfl, rfl, HR⟩ := hrel
      by_cases hlt : k < n
      · obtain ⟨b1, o1, rfl, hs1⟩ := ha.sl hlt
        obtain ⟨b2, o2, rfl, hs2⟩ := hb.sl hlt
        obtain ⟨x, HX, hx⟩ := map_at (Value.int .i64) xs (k := k) (by have := HA.out; simp at this; omega)
        obtain ⟨y, HY, hy⟩ := map_at (Value.int .i64) ys (k := k) (by have := HB.out; simp at this; omega)
        have hca := hs1.at hx
        have hcb := hs2.at hy
        clear hx hy hs1 hs2 ha hb
        by_cases e : x = y
        · subst e; have hz : (x != x) = false := by simp
          go_wp2
          go_quiet (fail)
          go_wp2
          go_roundw
          case rel => exact ⟨k + 1, _, by omega, by go_num, rfl, take_succ_eq HR.out HX.out HY.out rfl⟩
          case measure => simp [intOf]; omega
        · have hz : (x != y) = true := by simpa using e
          have HE := Lib.hid e
          clear e
          go_wp2
          go_quiet (fail)
          go_wp2
          go_ret
          exact ⟨ret_bool (by simp [ne_of_at HX.out HY.out HE.out]), by first | exact ⟨_, rfl⟩ | exact ⟨_, World.drewN_drewN _ _ _⟩⟩
      · go_wp2
        go_ret
        refine ⟨ret_bool ?_, _, rfl⟩
        have h1 := HR.out
        have h2 := HA.out
        have h3 := HB.out
        simp only [List.length_map] at h2 h3
        rw [List.take_of_length_le (by omega), List.take_of_length_le (by omega)] at h1
        simp [h1]
  · have hne : ((n : Int) != (m : Int)) = true := by simp; omega
    go_enter Tryd.func91, Tryd.ntmps91
    go_wp2
    go_ret
    refine ⟨ret_bool ?_, 0, rfl⟩
    have h2 := HA.out
    have h3 := HB.out
    simp only [List.length_map] at h2 h3
    symm
    apply decide_eq_false
    rintro rfl
    omega

def mkInt64S (k : Int) : Value := .int .i64 k

end Go.Proofs.YtgcedfpjgdeakaaDoor

/- Contracts of the laws' helpers on []int64, in one form: copy, compare, size, mark, look at the marks. -/
namespace Go.Proofs.YtgcedfpjgdeakaaDoor
open Go.RowKit
set_option linter.all false

theorem inToInt64S (A : Option Addr) (n c : Nat) (t : List Int) (w : World) (ha : Args 1 w A n (rows oneI t)) (hn : n ≤ 1048576) :
    Calls Tryd.prog 82 #[.slice A n c] w fun e w' => e = .returned (.slice (some ⟨w.heap.size, 0, none⟩) n n) ∧ w'.ownsRow w.heap.size 2 1 (.slice (some ⟨w.heap.size, 0, none⟩) n n) n (rows oneI t) ∧ Below w.heap.size w w' := by
  rw [rows_oneI] at ha ⊢; exact toInt64S_any A n c t w (arg_args ha) hn

theorem inEqInt64S (A B : Option Addr) (n m c d : Nat) (x y : List Int) (v : Bool) (hv : decide (x = y) = v) (w : World) (ha : Args 1 w A n (rows oneI x)) (hb : Args 1 w B m (rows oneI y)) (hn : n ≤ 4194304) (hm : m ≤ 4194304) :
    Calls Tryd.prog 91 #[.slice A n c, .slice B m d] w fun e w' => e = .returned (.bool v) ∧ Below w.heap.size w w' := by
  rw [rows_oneI] at ha hb
  have h := eqInt64S_any A B n m c d x y w (arg_args ha) (arg_args hb) hn hm
  rw [hv] at h
  exact h.mono fun e w' ⟨h1, q, h2⟩ => ⟨h1, quiet_below h2⟩

theorem inSzInt64S (A : Option Addr) (n c : Nat) (left : Int) (w : World) (h0 : 0 ≤ left) (h1 : left ≤ 1048576) (hn : n ≤ 9223372036854775807) :
    Calls Tryd.prog 79 #[.slice A n c, .int .i64 left] w fun e w' => (∃ z : Int, e = .returned (.int .i64 z) ∧ SzOut n left z) ∧ w = w' := by
  by_cases h : (n : Int) ≤ left
  · have h' : ¬ left - (n : Int) < 0 := by omega
    go_enter Tryd.func79, Tryd.ntmps79
    go_wp2
    go_ret
    exact ⟨⟨_, rfl, .inl ⟨h, rfl⟩⟩, rfl⟩
  · have h' : left - (n : Int) < 0 := by omega
    go_enter Tryd.func79, Tryd.ntmps79
    go_wp2
    go_ret
    exact ⟨⟨_, rfl, .inr ⟨by omega, rfl⟩⟩, rfl⟩

end Go.Proofs.YtgcedfpjgdeakaaDoor

/- The marks as numbers. -/
namespace Go.Proofs.YtgcedfpjgdeakaaDoor
set_option linter.all false
theorem rows_runI (k : Int) (n : Nat) : rows oneI (runI k n) = marks mkInt64S k (n * 1) := by
  rw [rows_oneI, Nat.mul_one]
  simp only [runI, marks, mkInt64S, List.map_map]
  rfl
end Go.Proofs.YtgcedfpjgdeakaaDoor

/- Small functions on numbers and lists of numbers: within, l00In, size, allWithin, rising, l00Rises. -/
namespace Go.Proofs.YtgcedfpjgdeakaaDoor
open Go.RowKit
set_option linter.all false

def inB (n lo hi : Int) : Bool := decide (lo ≤ n) && decide (n ≤ hi)
theorem inB_iff (n lo hi : Int) : inB n lo hi = true ↔ lo ≤ n ∧ n ≤ hi := by simp [inB]
theorem inB_false (n lo hi : Int) : inB n lo hi = false ↔ n < lo ∨ hi < n := by simp [inB]; omega

theorem within_any (n lo hi : Int) (w : World) : Calls Tryd.prog 56 #[.int .i64 n, .int .i64 lo, .int .i64 hi] w fun e w' => e = .returned (.bool (inB n lo hi)) ∧ w = w' := by
  unfold inB
  by_cases h1 : lo ≤ n
  · by_cases h2 : n ≤ hi
    · go_enter Tryd.func56, Tryd.ntmps56
      go_wp2
      go_ret
      exact ⟨ret_bool (by simp [h1, h2]), rfl⟩
    · go_enter Tryd.func56, Tryd.ntmps56
      go_wp2
      go_ret
      exact ⟨ret_bool (by simp [h1, h2]), rfl⟩
  · go_enter Tryd.func56, Tryd.ntmps56
    go_wp2
    go_ret
    exact ⟨ret_bool (by simp; omega), rfl⟩

theorem within_is (n lo hi : Int) (v : Bool) (h : inB n lo hi = v) (w : World) : Calls Tryd.prog 56 #[.int .i64 n, .int .i64 lo, .int .i64 hi] w fun e w' => e = .returned (.bool v) ∧ w = w' := by
  subst h; exact within_any n lo hi w

theorem l00In_any (n lo hi : Int) (w : World) : Calls Tryd.prog 46 #[.int .i64 n, .int .i64 lo, .int .i64 hi] w fun e w' => e = .returned (.bool (inB n lo hi)) ∧ w = w' := by
  unfold inB
  by_cases h1 : lo ≤ n
  · by_cases h2 : n ≤ hi
    all_goals
      go_enter Tryd.func46, Tryd.ntmps46
      go_wp2
      go_ret
      exact ⟨ret_bool (by simp [h1, h2]), rfl⟩
  · go_enter Tryd.func46, Tryd.ntmps46
    go_wp2
    go_ret
    exact ⟨ret_bool (by simp; omega), rfl⟩

theorem getD_at {α : Type} {xs : List α} {k : Nat} {x d : α} (h : xs[k]? = some x) : xs.getD k d = x := by rw [List.getD_eq_getElem?_getD, h]; rfl
theorem getD_mem {xs : List Int} {k : Nat} {x : Int} (h : xs[k]? = some x) : x ∈ xs := List.mem_of_getElem? h

/-- Strictly rising. -/
def upB (xs : List Int) : Bool := (List.range (xs.length - 1)).all fun j => decide (xs.getD j 0 < xs.getD (j + 1) 0)
theorem upB_iff (xs : List Int) : upB xs = true ↔ ∀ j, j + 1 < xs.length → xs.getD j 0 < xs.getD (j + 1) 0 := by
  unfold upB
  rw [List.all_eq_true]
  constructor
  · intro h j hj
    simpa using h j (by simp; omega)
  · intro h j hj
    simpa using h j (by simp at hj; omega)
theorem upB_no {xs : List Int} {j : Nat} {x y : Int} (hx : xs[j]? = some x) (hy : xs[j + 1]? = some y) (h : y ≤ x) : upB xs = false := by
  rw [Bool.eq_false_iff]
  intro hu
  have := (upB_iff xs).1 hu j ((List.getElem?_eq_some_iff.1 hy).1)
  rw [getD_at hx, getD_at hy] at this
  omega
theorem all_no {xs : List Int} {p : Int → Bool} {j : Nat} {x : Int} (hx : xs[j]? = some x) (h : p x = false) : xs.all p = false := by
  rw [Bool.eq_false_iff]
  intro hu
  have := List.all_eq_true.1 hu x (getD_mem hx)
  rw [h] at this; cases this

theorem l00In_is (n lo hi : Int) (v : Bool) (h : inB n lo hi = v) (w : World) : Calls Tryd.prog 46 #[.int .i64 n, .int .i64 lo, .int .i64 hi] w fun e w' => e = .returned (.bool v) ∧ w = w' := by
  subst h; exact l00In_any n lo hi w

/-- In bounds and strictly rising. -/
def risesB (xs : List Int) (lo hi : Int) : Bool := xs.all (inB · lo hi) && upB xs

set_option maxHeartbeats 400000 in
theorem allWithin_any (b off n c : Nat) (xs : List Int) (lo hi : Int) (w : World) (hs : Sl w b off (xs.map (.int .i64))) (hl : xs.length = n) (hn : n ≤ 4194304) :
    Calls Tryd.prog 104 #[.slice (some ⟨b, off, none⟩) n c, .int .i64 lo, .int .i64 hi] w fun e w' => e = .returned (.bool (xs.all (inB · lo hi))) ∧ w = w' := by
  have HL := Lib.hid hl; clear hl
  go_enter Tryd.func104, Tryd.ntmps104
  go_wp2
  go_loop [11] (fun i => ∃ k : Nat, k ≤ n ∧ i = .int .i64 k ∧ Hid (∀ j x, j < k → xs[j]? = some x → inB x lo hi = true)) (fun i => n - (intOf i).toNat)
  case atStart => exact ⟨0, Nat.zero_le _, rfl, by intro j x hj; omega⟩
  case round =>
    obtain ⟨k, hk, rfl, HR⟩ := hrel
    by_cases hlt : k < n
    · obtain ⟨y, HY, hy⟩ := map_at (Value.int .i64) xs (k := k) (by have := HL.out; omega)
      have hcb := hs.at hy
      clear hy hs
      rcases Bool.eq_false_or_eq_true (inB y lo hi) with hb | hb
      rotate_left
      · have HB := Lib.hid hb
        clear hb
        go_wp2_with (go_at_call 56; refine (within_is y lo hi _ HB.out _).mono ?_; rintro e w' ⟨rfl, rfl⟩)
        go_ret
        exact ⟨ret_bool (all_no HY.out HB.out).symm, rfl⟩
      · have HB := Lib.hid hb
        clear hb
        go_wp2_with (go_at_call 56; refine (within_is y lo hi _ HB.out _).mono ?_; rintro e w' ⟨rfl, rfl⟩)
        go_round
        case rel => exact ⟨k + 1, by omega, by go_num, by
          intro j x hj hx
          by_cases ej : j = k
          · subst ej
            have h2 := HY.out
            rw [hx] at h2; injection h2 with h2; subst h2; exact HB.out
          · exact HR.out j x (by omega) hx⟩
        case measure => simp [intOf]; omega
    · go_wp2
      go_ret
      refine ⟨ret_bool ?_, rfl⟩
      symm
      have hl := HL.out
      rw [List.all_eq_true]
      intro x hx
      obtain ⟨j, hj⟩ := List.getElem?_of_mem hx
      exact HR.out j x (by have := (List.getElem?_eq_some_iff.1 hj).1; omega) hj

theorem size_int64_any (A : Option Addr) (n c : Nat) (w : World) : Calls Tryd.prog 103 #[.slice A n c] w fun e w' => e = .returned (.int .i64 n) ∧ w = w' := by
  go_enter Tryd.func103, Tryd.ntmps103
  go_wp2
  go_ret
  exact ⟨rfl, rfl⟩

end Go.Proofs.YtgcedfpjgdeakaaDoor

/- Words: IsWord, equality of lists of numbers, where a part begins. -/
namespace Go.Proofs.YtgcedfpjgdeakaaDoor
open Go.RowKit
set_option linter.all false

theorem Sl.cut {w : World} {b off : Nat} {α : Type} {f : α → Value} {xs : List α} (h : Sl w b off (xs.map f)) (k m : Nat) : Sl w b (off + k) (((xs.drop k).take m).map f) := by
  refine ⟨h.1, fun j u hu => ?_⟩
  have h2 : (xs.map f)[k + j]? = some u := by
    rw [List.getElem?_map, List.getElem?_take] at hu
    rw [List.getElem?_map]
    split at hu
    · rw [List.getElem?_drop] at hu; exact hu
    · cases hu
  have := h.2 (k + j) u h2
  rw [← Nat.add_assoc] at this
  exact this
theorem Sl.from {w : World} {b off : Nat} {α : Type} {f : α → Value} {xs : List α} (h : Sl w b off (xs.map f)) (k : Nat) : Sl w b (off + k) ((xs.drop k).map f) := by
  have := h.cut k xs.length
  rwa [List.take_of_length_le (by simp)] at this
theorem Sl.to {w : World} {b off : Nat} {α : Type} {f : α → Value} {xs : List α} (h : Sl w b off (xs.map f)) (m : Nat) : Sl w b off ((xs.take m).map f) := by
  have := h.cut 0 m
  simpa using this

theorem Sl.empty {w : World} {b off : Nat} (h : b < w.heap.size) {α : Type} {f : α → Value} : Sl w b off (([] : List α).map f) := ⟨h, fun j u hu => by simp at hu⟩

def isWordB (xs : List Int) : Bool := decide (xs.length ≤ 400) && xs.all (inB · 0 9)

/-- Whether a part stands at a place of a word. -/
def startsB (xs : List Int) (k : Nat) (ps : List Int) : Bool := decide (k + ps.length ≤ xs.length) && decide ((xs.drop k).take ps.length = ps)
end Go.Proofs.YtgcedfpjgdeakaaDoor

/- Contracts of the laws' helpers on Tape and []Tape: copy, compare, size, mark, look at the marks. -/
namespace Go.Proofs.YtgcedfpjgdeakaaDoor
open Go.RowKit
set_option linter.all false

/-- The data. -/
structure DTape where
  f0 : List Int
  f1 : List Int
instance : DecidableEq DTape := fun x y => decidable_of_iff (x.f0 = y.f0 ∧ x.f1 = y.f1) ⟨fun h => by cases x; cases y; simp_all, fun h => by subst h; exact ⟨rfl, rfl⟩⟩
/-- A record in memory. -/
structure ETape where
  d : DTape
  u0 : Value
  u1 : Value
def ETape.vs (e : ETape) : List Value := [e.u0, e.u1]
def ETape.us (e : ETape) : List Value := [e.u0, e.u1]
def ETape.its (e : ETape) : List (Nat × List Value) := [(e.d.f0.length, rows oneI e.d.f0), (e.d.f1.length, rows oneI e.d.f1)]
def kndTape : Knd ETape := ⟨ETape.vs, ETape.us, ETape.its, 2, 2, fun _ => rfl, fun _ => rfl, fun _ => rfl⟩
def wlTape (x : DTape) : Nat := x.f0.length + x.f1.length
def wbTape (m : Nat) (x : DTape) : Prop := x.f0.length ≤ m ∧ x.f1.length ≤ m ∧ True
def DTape.wf (x : DTape) : Prop := (∀ y ∈ x.f0, Wf64 y) ∧ (∀ y ∈ x.f1, Wf64 y)
def RdTape (w : World) (e : ETape) : Prop := (∃ A c, e.u0 = .slice A e.d.f0.length c ∧ Args 1 w A e.d.f0.length (rows oneI e.d.f0)) ∧ (∃ A c, e.u1 = .slice A e.d.f1.length c ∧ Args 1 w A e.d.f1.length (rows oneI e.d.f1)) ∧ True
theorem RdTape.below {w w' : World} {e : ETape} (h : RdTape w e) (hb : Below w.heap.size w w') : RdTape w' e := by
  obtain ⟨⟨A0, c0, e0, h0⟩, ⟨A1, c1, e1, h1⟩, -⟩ := h
  exact ⟨⟨A0, c0, e0, h0.below hb⟩, ⟨A1, c1, e1, h1.below hb⟩, trivial⟩
def RdsTape (w : World) (es : List ETape) : Prop := ∀ e ∈ es, RdTape w e
theorem RdsTape.below {w w' : World} {es : List ETape} (h : RdsTape w es) (hb : Below w.heap.size w w') : RdsTape w' es := fun e he => (h e he).below hb
theorem rdsTape_of {base hi : Nat} {T Te : TypeId} {V : Value} {es : List ETape} {W : World} (h : SGrid kndTape base hi T Te 1 V es W) : RdsTape W es := by
  intro e he
  obtain ⟨k, hk⟩ := List.getElem?_of_mem he
  refine ⟨?_, ?_, trivial⟩
  · have hr := h.row (j := 0) hk (v := e.u0) (it := (e.d.f0.length, rows oneI e.d.f0)) rfl rfl
    obtain ⟨A, c, e1⟩ := own_form hr
    rw [e1] at hr
    exact ⟨A, c, e1, args_of_own hr⟩
  · have hr := h.row (j := 1) hk (v := e.u1) (it := (e.d.f1.length, rows oneI e.d.f1)) rfl rfl
    obtain ⟨A, c, e1⟩ := own_form hr
    rw [e1] at hr
    exact ⟨A, c, e1, args_of_own hr⟩
def mkTape (k : Int) (e : ETape) : ETape := ⟨⟨runI k e.d.f0.length, runI (k + ((e.d.f0.length : Nat) : Int)) e.d.f1.length⟩, e.u0, e.u1⟩
def widTape (e : ETape) : Nat := 0 + wlTape e.d * 1
theorem widTape_eq (e : ETape) : widTape e = e.d.f0.length * 1 + e.d.f1.length * 1 := by unfold widTape wlTape; omega
/-- Each of the record's slices has an address below m. -/
def adrTape (m : Nat) (e : ETape) : Prop := (∃ g : Nat, g < m ∧ e.u0 = .slice (some ⟨g, 0, none⟩) e.d.f0.length e.d.f0.length) ∧ (∃ g : Nat, g < m ∧ e.u1 = .slice (some ⟨g, 0, none⟩) e.d.f1.length e.d.f1.length) ∧ True
theorem adrTape.mono {m m' : Nat} {e : ETape} (h : adrTape m e) (hm : m ≤ m') : adrTape m' e := by
  obtain ⟨⟨g0, l0, e0⟩, ⟨g1, l1, e1⟩, -⟩ := h
  exact ⟨⟨g0, Nat.lt_of_lt_of_le l0 hm, e0⟩, ⟨g1, Nat.lt_of_lt_of_le l1 hm, e1⟩, trivial⟩
theorem adrsTape_snoc {m m' : Nat} {es : List ETape} (h : ∀ e ∈ es, adrTape m e) (hm : m ≤ m') {x : ETape} (hx : adrTape m' x) : ∀ e ∈ es ++ [x], adrTape m' e := by
  intro e he
  rcases List.mem_append.1 he with h1 | h1
  · exact (h e h1).mono hm
  · rw [List.mem_singleton.1 h1]; exact hx
/-- Readable records whose slices have addresses. -/
def RcsTape (w : World) (es : List ETape) : Prop := RdsTape w es ∧ ∀ e ∈ es, adrTape w.heap.size e
theorem RcsTape.below {w w' : World} {es : List ETape} (h : RcsTape w es) (hb : Below w.heap.size w w') : RcsTape w' es := ⟨h.1.below hb, fun e he => (h.2 e he).mono hb.size⟩
theorem rcsTape_of {base hi m : Nat} {T Te : TypeId} {V : Value} {es : List ETape} {W : World} (h : SGrid kndTape base hi T Te 1 V es W) (ha : ∀ e ∈ es, adrTape m e) (hm : m ≤ W.heap.size) : RcsTape W es := ⟨rdsTape_of h, fun e he => (ha e he).mono hm⟩
/-- A record's slices read as lists. -/
theorem RcsTape.at {w : World} {es : List ETape} (h : RcsTape w es) {e : ETape} (he : e ∈ es) : (∃ g : Nat, e.u0 = .slice (some ⟨g, 0, none⟩) e.d.f0.length e.d.f0.length ∧ Sl w g 0 (e.d.f0.map (.int .i64))) ∧ (∃ g : Nat, e.u1 = .slice (some ⟨g, 0, none⟩) e.d.f1.length e.d.f1.length ∧ Sl w g 0 (e.d.f1.map (.int .i64))) ∧ True := by
  obtain ⟨⟨A0, c0, hu0, ha0⟩, ⟨A1, c1, hu1, ha1⟩, -⟩ := h.1 e he
  obtain ⟨⟨g0, hl0, hg0⟩, ⟨g1, hl1, hg1⟩, -⟩ := h.2 e he
  refine ⟨?_, ?_, trivial⟩
  · refine ⟨g0, hg0, ?_⟩
    rw [hg0] at hu0
    injection hu0 with e1 e2 e3
    rcases ha0.2 with h0 | ⟨b, off, hA, hsl⟩
    · rw [List.eq_nil_of_length_eq_zero h0]; exact Sl.empty hl0
    · rw [hA] at e1
      injection e1 with e1
      injection e1 with e4 e5 e6
      subst e4; subst e5
      rw [rows_oneI] at hsl
      exact hsl
  · refine ⟨g1, hg1, ?_⟩
    rw [hg1] at hu1
    injection hu1 with e1 e2 e3
    rcases ha1.2 with h0 | ⟨b, off, hA, hsl⟩
    · rw [List.eq_nil_of_length_eq_zero h0]; exact Sl.empty hl1
    · rw [hA] at e1
      injection e1 with e1
      injection e1 with e4 e5 e6
      subst e4; subst e5
      rw [rows_oneI] at hsl
      exact hsl
theorem infoTape : (Tryd.prog.info? 94).map (fun i => (i.zero, i.size, i.bytes)) = some (some (.agg #[.slice none 0 0, .slice none 0 0]), 2, 48) := by kernel_rfl

set_option maxRecDepth 100000 in
theorem toTape_any (e : ETape) (w : World) (h : RdTape w e) (hl : wlTape e.d ≤ 1048576) :
    Calls Tryd.prog 54 #[.agg #[e.u0, e.u1]] w fun z w' => (∃ v0 v1 : Nat, z = .returned (.agg #[.slice (some ⟨v0, 0, none⟩) e.d.f0.length e.d.f0.length, .slice (some ⟨v1, 0, none⟩) e.d.f1.length e.d.f1.length]) ∧ Inn 1 2 w.heap.size w'.heap.size [.slice (some ⟨v0, 0, none⟩) e.d.f0.length e.d.f0.length, .slice (some ⟨v1, 0, none⟩) e.d.f1.length e.d.f1.length] e.its w') ∧ Below w.heap.size w w' := by
  obtain ⟨⟨f0, f1⟩, u0, u1⟩ := e
  obtain ⟨⟨A0, c0, hu0, ha0⟩, ⟨A1, c1, hu1, ha1⟩, -⟩ := h
  simp only [wlTape] at hl hu0 ha0 hu1 ha1 ⊢
  unfold ETape.its
  simp only
  subst hu0
  obtain ⟨n0, hn0⟩ : ∃ n, n = f0.length := ⟨_, rfl⟩
  rw [← hn0] at ha0 hl ⊢
  clear hn0
  subst hu1
  obtain ⟨n1, hn1⟩ : ∃ n, n = f1.length := ⟨_, rfl⟩
  rw [← hn1] at ha1 hl ⊢
  clear hn1
  obtain ⟨w0, HW0, B0, x0, y0, z0, sz0⟩ := al3 w (.cells #[.slice A0 n0 c0, .slice A1 n1 c1] 87) (.cells #[.slice none 0 0, .slice none 0 0] 94) (.cells #[.slice none 0 0, .slice none 0 0] 94)
  have I0 := Inn.nil 1 w0.heap.size w0.heap.size 2 w0
  have L0 : w.heap.size + 1 + 1 < w0.heap.size := by omega
  go_enter Tryd.func54, Tryd.ntmps54
  go_wp2_with fail
  rw [← HW0.out]
  refine (inToInt64S A0 n0 c0 f0 _ (ha0.below B0) (by omega)).mono ?_
  rintro z w1a ⟨rfl, own0, b0⟩
  have B0a := below_step B0 b0
  have x0a := (b0.block _ (heap_lt x0)).trans x0
  have y0a := (b0.block _ (heap_lt y0)).trans y0
  have z0a := (b0.block _ (heap_lt z0)).trans z0
  have I0a := (I0.below b0).snoc (it := (n0, rows oneI f0)) own0 (Nat.le_refl _) (Nat.le_refl _) (Nat.le_refl _) b0.size
  obtain ⟨g0, hg0⟩ : ∃ g : Nat, g = w0.heap.size := ⟨_, rfl⟩
  have I0b : Inn 1 2 w0.heap.size w1a.heap.size [.slice (some ⟨g0, 0, none⟩) n0 n0] [(n0, rows oneI f0)] w1a := by rw [hg0]; exact I0a
  rw [← hg0]
  clear own0 hg0 I0a
  obtain ⟨w1, HW1, B1, x1, y1, z1, I1, SZ1⟩ : ∃ w1, Hid (w1 = (w1a.setCell ⟨w.heap.size + 1 + 1, 0, none⟩ (.slice (some ⟨g0, 0, none⟩) n0 n0))) ∧ Below w.heap.size w w1 ∧ w1.heap[w.heap.size]? = some (.cells #[.slice A0 n0 c0, .slice A1 n1 c1] 87 (0, 0)) ∧ w1.heap[w.heap.size + 1]? = some (.cells #[.slice none 0 0, .slice none 0 0] 94 (0, 0)) ∧ w1.heap[w.heap.size + 1 + 1]? = some (.cells #[.slice (some ⟨g0, 0, none⟩) n0 n0, .slice none 0 0] 94 (0, 0)) ∧ Inn 1 2 w0.heap.size w1a.heap.size [.slice (some ⟨g0, 0, none⟩) n0 n0] [(n0, rows oneI f0)] w1 ∧ w1a.heap.size = w1.heap.size := by
    refine ⟨_, rfl, ?_, ?_, ?_, ?_, ?_, ?_⟩
    · exact (B0a.setCell (p := ⟨w.heap.size + 1 + 1, 0, none⟩) (by simp; omega) _)
    · exact (heap_set_other x0a ⟨w.heap.size + 1 + 1, 0, none⟩ (by dsimp only; omega) _)
    · exact (heap_set_other y0a ⟨w.heap.size + 1 + 1, 0, none⟩ (by dsimp only; omega) _)
    · exact (heap_set z0a (.slice (some ⟨g0, 0, none⟩) n0 n0))
    · exact (I0b.set_low (b := w.heap.size + 1 + 1) (o := 0) L0 _)
    · simp [World.setCell]
  have kz0 : w1a.frozen? ⟨w.heap.size + 1 + 1, 0, none⟩ = false := frozen_of_heap z0a
  have ez0_0 : ∃ u, w1a.cell? ⟨w.heap.size + 1 + 1, 0, none⟩ = some u := ⟨_, by rw [cell_of_heap z0a]; rfl⟩
  obtain ⟨oz0_0, ez0_0⟩ := ez0_0
  have fz0_0 : w1a.frozen? ⟨w.heap.size + 1 + 1, 0, none⟩ = false := frozen_of_heap z0a
  have cx0_1 : w1a.cell? ⟨w.heap.size, 1, none⟩ = some (.slice A1 n1 c1) := by rw [cell_of_heap x0a]; rfl
  have S1 : w0.heap.size ≤ w1.heap.size := Nat.le_trans b0.size (Nat.le_of_eq SZ1)
  clear HW0 x0 y0 z0 x0a b0 I0 I0b y0a z0a
  go_wp2_with fail
  rw [← HW1.out]
  refine (inToInt64S A1 n1 c1 f1 _ (ha1.below B1) (by omega)).mono ?_
  rintro z w2a ⟨rfl, own1, b1⟩
  have B1a := below_step B1 b1
  have x1a := (b1.block _ (heap_lt x1)).trans x1
  have y1a := (b1.block _ (heap_lt y1)).trans y1
  have z1a := (b1.block _ (heap_lt z1)).trans z1
  have I1a := (I1.below b1).snoc (it := (n1, rows oneI f1)) own1 (Nat.le_of_eq SZ1) S1 (Nat.le_refl _) (Nat.le_trans (Nat.le_of_eq SZ1) b1.size)
  obtain ⟨g1, hg1⟩ : ∃ g : Nat, g = w1.heap.size := ⟨_, rfl⟩
  have I1b : Inn 1 2 w0.heap.size w2a.heap.size [.slice (some ⟨g0, 0, none⟩) n0 n0, .slice (some ⟨g1, 0, none⟩) n1 n1] [(n0, rows oneI f0), (n1, rows oneI f1)] w2a := by rw [hg1]; exact I1a
  rw [← hg1]
  clear own1 hg1 I1a
  obtain ⟨w2, HW2, B2, x2, y2, z2, I2, SZ2⟩ : ∃ w2, Hid (w2 = (w2a.setCell ⟨w.heap.size + 1 + 1, 1, none⟩ (.slice (some ⟨g1, 0, none⟩) n1 n1))) ∧ Below w.heap.size w w2 ∧ w2.heap[w.heap.size]? = some (.cells #[.slice A0 n0 c0, .slice A1 n1 c1] 87 (0, 0)) ∧ w2.heap[w.heap.size + 1]? = some (.cells #[.slice none 0 0, .slice none 0 0] 94 (0, 0)) ∧ w2.heap[w.heap.size + 1 + 1]? = some (.cells #[.slice (some ⟨g0, 0, none⟩) n0 n0, .slice (some ⟨g1, 0, none⟩) n1 n1] 94 (0, 0)) ∧ Inn 1 2 w0.heap.size w2a.heap.size [.slice (some ⟨g0, 0, none⟩) n0 n0, .slice (some ⟨g1, 0, none⟩) n1 n1] [(n0, rows oneI f0), (n1, rows oneI f1)] w2 ∧ w2a.heap.size = w2.heap.size := by
    refine ⟨_, rfl, ?_, ?_, ?_, ?_, ?_, ?_⟩
    · exact (B1a.setCell (p := ⟨w.heap.size + 1 + 1, 1, none⟩) (by simp; omega) _)
    · exact (heap_set_other x1a ⟨w.heap.size + 1 + 1, 1, none⟩ (by dsimp only; omega) _)
    · exact (heap_set_other y1a ⟨w.heap.size + 1 + 1, 1, none⟩ (by dsimp only; omega) _)
    · exact (heap_set z1a (.slice (some ⟨g1, 0, none⟩) n1 n1))
    · exact (I1b.set_low (b := w.heap.size + 1 + 1) (o := 1) L0 _)
    · simp [World.setCell]
  have kz1 : w2a.frozen? ⟨w.heap.size + 1 + 1, 0, none⟩ = false := frozen_of_heap z1a
  have ez1_1 : ∃ u, w2a.cell? ⟨w.heap.size + 1 + 1, 1, none⟩ = some u := ⟨_, by rw [cell_of_heap z1a]; rfl⟩
  obtain ⟨oz1_1, ez1_1⟩ := ez1_1
  have fz1_1 : w2a.frozen? ⟨w.heap.size + 1 + 1, 1, none⟩ = false := frozen_of_heap z1a
  have S2 : w0.heap.size ≤ w2.heap.size := Nat.le_trans (Nat.le_trans S1 b1.size) (Nat.le_of_eq SZ2)
  clear HW1 x1 y1 z1 x1a b1 I1 I1b 
  have lz0 : w2a.cell? ⟨w.heap.size + 1 + 1, 0, none⟩ = some (.slice (some ⟨g0, 0, none⟩) n0 n0) := by rw [cell_of_heap z1a]; rfl
  have ly0 : w2a.cell? ⟨w.heap.size + 1, 0, none⟩ = some (.slice none 0 0) := by rw [cell_of_heap y1a]; rfl
  have fy0 : w2a.frozen? ⟨w.heap.size + 1, 0, none⟩ = false := frozen_of_heap y1a
  have ly1 : w2a.cell? ⟨w.heap.size + 1, 1, none⟩ = some (.slice none 0 0) := by rw [cell_of_heap y1a]; rfl
  have fy1 : w2a.frozen? ⟨w.heap.size + 1, 1, none⟩ = false := frozen_of_heap y1a
  clear y1a z1a
  go_wp2
  refine bodyPost_ret (v := .agg #[.slice (some ⟨g0, 0, none⟩) n0 n0, .slice (some ⟨g1, 0, none⟩) n1 n1]) (by simp [results, Tryd.results54, go_sem, ly0, ly1]) rfl ?_
  refine ⟨⟨g0, g1, rfl, ?_⟩, ?_⟩
  · rw [← HW2.out]
    have hsz : ∀ (a b : World), a.heap.size = b.heap.size → a.heap.size ≤ b.heap.size := fun a b e => Nat.le_of_eq e
    refine Inn.wide (hi := w2.heap.size) ?_ (by simp [World.setCell])
    rw [← SZ2]
    have L1 : w.heap.size + 1 < w0.heap.size := by omega
    exact ((I2.set_low (b := w.heap.size + 1) (o := 0) L1 _).set_low (b := w.heap.size + 1) (o := 1) L1 _).lower B0.size
  · rw [← HW2.out]
    exact ((B2.setCell (p := ⟨w.heap.size + 1, 0, none⟩) (by simp) _).setCell (p := ⟨w.heap.size + 1, 1, none⟩) (by simp) _)

set_option maxRecDepth 100000 in
theorem eqTape_any (e g : ETape) (w : World) (he : RdTape w e) (hg : RdTape w g) (hl : wlTape e.d ≤ 4194304) (hm : wlTape g.d ≤ 4194304) :
    Calls Tryd.prog 66 #[.agg #[e.u0, e.u1], .agg #[g.u0, g.u1]] w fun z w' => z = .returned (.bool (decide (e.d = g.d))) ∧ Below w.heap.size w w' := by
  obtain ⟨⟨f0, f1⟩, u0, u1⟩ := e
  obtain ⟨⟨g0, g1⟩, v0, v1⟩ := g
  obtain ⟨⟨A0, c0, hu0, ha0⟩, ⟨A1, c1, hu1, ha1⟩, -⟩ := he
  obtain ⟨⟨Z0, d0, hv0, hb0⟩, ⟨Z1, d1, hv1, hb1⟩, -⟩ := hg
  simp only [wlTape] at hl hm hu0 ha0 hv0 hb0 hu1 ha1 hv1 hb1 ⊢
  subst hu0
  subst hv0
  obtain ⟨n0, hn0⟩ : ∃ n, n = f0.length := ⟨_, rfl⟩
  rw [← hn0] at ha0 hl ⊢
  obtain ⟨m0, hm0⟩ : ∃ n, n = g0.length := ⟨_, rfl⟩
  rw [← hm0] at hb0 hm ⊢
  clear hn0 hm0
  subst hu1
  subst hv1
  obtain ⟨n1, hn1⟩ : ∃ n, n = f1.length := ⟨_, rfl⟩
  rw [← hn1] at ha1 hl ⊢
  obtain ⟨m1, hm1⟩ : ∃ n, n = g1.length := ⟨_, rfl⟩
  rw [← hm1] at hb1 hm ⊢
  clear hn1 hm1
  obtain ⟨w0, HW0, B0, x0, y0⟩ := al2 w (.cells #[.slice A0 n0 c0, .slice A1 n1 c1] 94) (.cells #[.slice Z0 m0 d0, .slice Z1 m1 d1] 94)
  have HX0 := Lib.hid x0; have HY0 := Lib.hid y0; clear x0 y0
  have BL : Hid (Below w.heap.size w ((w.alloc (.cells #[.slice A0 n0 c0, .slice A1 n1 c1] 94)).alloc (.cells #[.slice Z0 m0 d0, .slice Z1 m1 d1] 94))) := by have := HW0.out; rw [← this]; exact B0
  by_cases h0 : f0 = g0
  rotate_left
  · have NE := Lib.hid h0
    have E0 := Lib.hid (decide_eq_false h0)
    clear h0
    go_enter Tryd.func66, Tryd.ntmps66
    go_wp2_with fail
    rw [← HW0.out]
    refine (inEqInt64S A0 Z0 n0 m0 c0 d0 f0 g0 false E0.out _ (ha0.below B0) (hb0.below B0) (by omega) (by omega)).mono ?_
    rintro z w1 ⟨rfl, b1⟩
    have B1 := below_step B0 b1
    have HX1 := Lib.hid ((b1.block _ (heap_lt HX0.out)).trans HX0.out)
    have HY1 := Lib.hid ((b1.block _ (heap_lt HY0.out)).trans HY0.out)
    clear b1
    go_wp2
    go_ret
    exact ⟨ret_bool (by simp [NE.out]), B1⟩
  subst h0
  by_cases h1 : f1 = g1
  rotate_left
  · have NE := Lib.hid h1
    have E1 := Lib.hid (decide_eq_false h1)
    clear h1
    go_enter Tryd.func66, Tryd.ntmps66
    go_wp2_with fail
    rw [← HW0.out]
    refine (inEqInt64S A0 Z0 n0 m0 c0 d0 f0 f0 true (decide_eq_true rfl) _ (ha0.below B0) (hb0.below B0) (by omega) (by omega)).mono ?_
    rintro z w1 ⟨rfl, b1⟩
    have B1 := below_step B0 b1
    have HX1 := Lib.hid ((b1.block _ (heap_lt HX0.out)).trans HX0.out)
    have HY1 := Lib.hid ((b1.block _ (heap_lt HY0.out)).trans HY0.out)
    have kx1_1 : w1.cell? ⟨w.heap.size, 1, none⟩ = some (.slice A1 n1 c1) := by rw [cell_of_heap HX1.out]; rfl
    have ky1_1 : w1.cell? ⟨w.heap.size + 1, 1, none⟩ = some (.slice Z1 m1 d1) := by rw [cell_of_heap HY1.out]; rfl
    clear b1
    go_wp2_with fail
    refine (inEqInt64S A1 Z1 n1 m1 c1 d1 f1 g1 false E1.out _ (ha1.below B1) (hb1.below B1) (by omega) (by omega)).mono ?_
    rintro z w2 ⟨rfl, b2⟩
    have B2 := below_step B1 b2
    have HX2 := Lib.hid ((b2.block _ (heap_lt HX1.out)).trans HX1.out)
    have HY2 := Lib.hid ((b2.block _ (heap_lt HY1.out)).trans HY1.out)
    clear b2
    go_wp2
    go_ret
    exact ⟨ret_bool (by simp [NE.out]), B2⟩
  subst h1
  go_enter Tryd.func66, Tryd.ntmps66
  go_wp2_with fail
  rw [← HW0.out]
  refine (inEqInt64S A0 Z0 n0 m0 c0 d0 f0 f0 true (decide_eq_true rfl) _ (ha0.below B0) (hb0.below B0) (by omega) (by omega)).mono ?_
  rintro z w1 ⟨rfl, b1⟩
  have B1 := below_step B0 b1
  have HX1 := Lib.hid ((b1.block _ (heap_lt HX0.out)).trans HX0.out)
  have HY1 := Lib.hid ((b1.block _ (heap_lt HY0.out)).trans HY0.out)
  have kx1_1 : w1.cell? ⟨w.heap.size, 1, none⟩ = some (.slice A1 n1 c1) := by rw [cell_of_heap HX1.out]; rfl
  have ky1_1 : w1.cell? ⟨w.heap.size + 1, 1, none⟩ = some (.slice Z1 m1 d1) := by rw [cell_of_heap HY1.out]; rfl
  clear b1
  go_wp2_with fail
  refine (inEqInt64S A1 Z1 n1 m1 c1 d1 f1 f1 true (decide_eq_true rfl) _ (ha1.below B1) (hb1.below B1) (by omega) (by omega)).mono ?_
  rintro z w2 ⟨rfl, b2⟩
  have B2 := below_step B1 b2
  have HX2 := Lib.hid ((b2.block _ (heap_lt HX1.out)).trans HX1.out)
  have HY2 := Lib.hid ((b2.block _ (heap_lt HY1.out)).trans HY1.out)
  clear b2
  go_wp2
  go_ret
  exact ⟨ret_bool (by simp), B2⟩

theorem eqTape_is (e g : ETape) (v : Bool) (hv : decide (e.d = g.d) = v) (w : World) (he : RdTape w e) (hg : RdTape w g) (hl : wlTape e.d ≤ 4194304) (hm : wlTape g.d ≤ 4194304) :
    Calls Tryd.prog 66 #[.agg #[e.u0, e.u1], .agg #[g.u0, g.u1]] w fun z w' => z = .returned (.bool v) ∧ Below w.heap.size w w' := by
  subst hv; exact eqTape_any e g w he hg hl hm

set_option maxRecDepth 100000 in
theorem szTape_any (e : ETape) (left : Int) (w : World) (he : RdTape w e) (h0 : 0 ≤ left) (h1 : left ≤ 1048576) (hl : wbTape 9223372036854775807 e.d) :
    Calls Tryd.prog 45 #[.agg #[e.u0, e.u1], .int .i64 left] w fun z w' => (∃ q : Int, z = .returned (.int .i64 q) ∧ SzOut (wlTape e.d) left q) ∧ Below w.heap.size w w' := by
  obtain ⟨⟨f0, f1⟩, u0, u1⟩ := e
  obtain ⟨⟨A0, c0, hu0, ha0⟩, ⟨A1, c1, hu1, ha1⟩, -⟩ := he
  obtain ⟨z0, z1, -⟩ := hl
  simp only [wlTape] at hu0 ha0 z0 hu1 ha1 z1 ⊢
  subst hu0
  obtain ⟨n0, hn0⟩ : ∃ n, n = f0.length := ⟨_, rfl⟩
  rw [← hn0] at ha0 z0 ⊢
  clear hn0 ha0
  subst hu1
  obtain ⟨n1, hn1⟩ : ∃ n, n = f1.length := ⟨_, rfl⟩
  rw [← hn1] at ha1 z1 ⊢
  clear hn1 ha1
  have BL : Below w.heap.size w (w.alloc (.cells #[.slice A0 n0 c0, .slice A1 n1 c1] 87)) := laid_below _ _
  by_cases y0 : (n0 : Int) ≤ left
  rotate_left
  · have Y := Lib.hid y0
    go_enter Tryd.func45, Tryd.ntmps45
    go_wp2_with fail
    refine (inSzInt64S A0 n0 c0 (left) _ (by omega) (by omega) (by omega)).mono ?_
    rintro z w1 ⟨⟨q0, rfl, hq0⟩, rfl⟩
    unfold SzOut at hq0
    obtain rfl : q0 = -1 := by omega
    go_wp2_with fail
    go_ret
    exact ⟨⟨_, rfl, szOut_no (by omega)⟩, BL⟩
  by_cases y1 : (n0 : Int) + (n1 : Int) ≤ left
  rotate_left
  · have Y := Lib.hid y1
    go_enter Tryd.func45, Tryd.ntmps45
    go_wp2_with fail
    refine (inSzInt64S A0 n0 c0 (left) _ (by omega) (by omega) (by omega)).mono ?_
    rintro z w1 ⟨⟨q0, rfl, hq0⟩, rfl⟩
    unfold SzOut at hq0
    obtain rfl : q0 = left - (n0 : Int) := by omega
    have nn0 : ¬ left - (n0 : Int) < 0 := by omega
    clear hq0
    go_wp2_with fail
    refine (inSzInt64S A1 n1 c1 (left - (n0 : Int)) _ (by omega) (by omega) (by omega)).mono ?_
    rintro z w1 ⟨⟨q1, rfl, hq1⟩, rfl⟩
    unfold SzOut at hq1
    obtain rfl : q1 = -1 := by omega
    go_wp2_with fail
    go_ret
    exact ⟨⟨_, rfl, szOut_no (by omega)⟩, BL⟩
  go_enter Tryd.func45, Tryd.ntmps45
  go_wp2_with fail
  refine (inSzInt64S A0 n0 c0 (left) _ (by omega) (by omega) (by omega)).mono ?_
  rintro z w1 ⟨⟨q0, rfl, hq0⟩, rfl⟩
  unfold SzOut at hq0
  obtain rfl : q0 = left - (n0 : Int) := by omega
  have nn0 : ¬ left - (n0 : Int) < 0 := by omega
  clear hq0
  go_wp2_with fail
  refine (inSzInt64S A1 n1 c1 (left - (n0 : Int)) _ (by omega) (by omega) (by omega)).mono ?_
  rintro z w1 ⟨⟨q1, rfl, hq1⟩, rfl⟩
  unfold SzOut at hq1
  obtain rfl : q1 = left - (n0 : Int) - (n1 : Int) := by omega
  have nn1 : ¬ left - (n0 : Int) - (n1 : Int) < 0 := by omega
  clear hq1
  go_wp2_with fail
  go_ret
  exact ⟨⟨_, rfl, szOut_yes (by omega) (by omega)⟩, BL⟩

/-- How many elements the records' slices have. -/
def sumTape (xs : List DTape) : Nat := (xs.map wlTape).sum
theorem sumTape_take {xs : List DTape} {k : Nat} {x : DTape} (h : xs[k]? = some x) : sumTape (xs.take (k + 1)) = sumTape (xs.take k) + wlTape x := by rw [List.take_add_one, h]; simp [sumTape]
theorem sumTape_le (xs : List DTape) (k : Nat) : sumTape (xs.take k) ≤ sumTape xs := by
  have h : ∀ a b : List DTape, sumTape a ≤ sumTape (a ++ b) := by intro a b; simp [sumTape]
  have := h (xs.take k) (xs.drop k)
  rwa [List.take_append_drop] at this
theorem sumTape_at {xs : List DTape} {k : Nat} {x : DTape} (h : xs[k]? = some x) : wlTape x ≤ sumTape xs := by
  have := sumTape_take h
  have := sumTape_le xs (k + 1)
  omega

set_option maxRecDepth 100000 in
set_option maxHeartbeats 1000000 in
theorem toTapeS_any (A : Option Addr) (n c : Nat) (es : List ETape) (w : World) (ha : Args 2 w A n (rows ETape.vs es)) (hr : RdsTape w es) (hn : n ≤ 1048576) (hts : sumTape (es.map (·.d)) ≤ 1048576) :
    Calls Tryd.prog 29 #[.slice A n c] w fun z w' => z = .returned (.slice (some ⟨w.heap.size, 0, none⟩) n n) ∧ (∃ es', SGrid kndTape w.heap.size w'.heap.size 94 2 1 (.slice (some ⟨w.heap.size, 0, none⟩) n n) es' w' ∧ es'.map (·.d) = es.map (·.d) ∧ ∀ e ∈ es', adrTape w'.heap.size e) ∧ Below w.heap.size w w' := by
  have HL : Hid (es.length = n) := by have := ha.1; rw [rows_len (s := 2) (fun _ => rfl)] at this; unfold Hid; omega
  have HS := Lib.hid hts; clear hts
  have hmk := fun W => run_make_rows (P := Tryd.prog) 41 94 _ 2 48 Tryd.underlying41 infoTape .i64 .i64 n (by omega) (by omega) W
  simp only [Value.cells] at hmk
  have hown0 : (w.alloc (.cells (madeCells #[.slice none 0 0, .slice none 0 0] (n * 2)) 94)).ownsRow w.heap.size 94 2 (.slice (some ⟨w.heap.size, 0, none⟩) n n) n (madeCells #[.slice none 0 0, .slice none 0 0] (n * 2)).toList := own_laid w 94 2 n _ (size_madeCells _ _) (by unfold maxLen; omega)
  have hb0 := laid_below w (.cells (madeCells #[.slice none 0 0, .slice none 0 0] (n * 2)) 94)
  go_enter Tryd.func29, Tryd.ntmps29
  go_wp2
  clear hmk
  go_loopw [4] (fun i wr => ∃ (k : Nat) (es' : List ETape) (rest : List Value), k ≤ n ∧ es'.length = k ∧ i = .int .i64 k ∧ wr.ownsRow w.heap.size 94 2 (.slice (some ⟨w.heap.size, 0, none⟩) n n) n (rows ETape.vs es' ++ rest) ∧ Inn 1 2 w.heap.size wr.heap.size (es'.flatMap ETape.us) (es'.flatMap ETape.its) wr ∧ Hid (es'.map (·.d) = (es.take k).map (·.d)) ∧ Below w.heap.size w wr ∧ Hid (∀ e ∈ es', adrTape wr.heap.size e)) (fun i _ => n - (intOf i).toNat)
  case atStart => exact ⟨0, [], _, Nat.zero_le _, rfl, rfl, hown0, Inn.nil _ _ _ _ _, rfl, hb0, (by intro e he; cases he)⟩
  case round =>
    obtain ⟨k, es', rest, hk, hkl, rfl, hown, hinn, HD, hB, HADR⟩ := hrel
    clear hown0 hb0
    have HK := Lib.hid hkl; clear hkl
    by_cases hlt : k < n
    · obtain ⟨b, off, rfl, hs⟩ := ha.sl hlt
      obtain ⟨e, HX⟩ := hget HL hlt
      have hrd := hr e (List.mem_of_getElem? HX.out)
      have hwl := sumTape_at (xs := es.map (·.d)) (k := k) (x := e.d) (by rw [List.getElem?_map, HX.out]; rfl)
      have hst := HS.out
      obtain ⟨⟨f0, f1⟩, u0, u1⟩ := e
      obtain ⟨⟨A0, c0, hu0, ha0⟩, ⟨A1, c1, hu1, ha1⟩, -⟩ := hrd
      simp only [wlTape] at hwl hu0 ha0 hu1 ha1
      subst hu0
      subst hu1
      have hrd2 : RdTape w (⟨⟨f0, f1⟩, .slice A0 f0.length c0, .slice A1 f1.length c1⟩ : ETape) := ⟨⟨A0, c0, rfl, ha0⟩, ⟨A1, c1, rfl, ha1⟩, trivial⟩
      have HT := Lib.hid (toTape_any ⟨⟨f0, f1⟩, .slice A0 f0.length c0, .slice A1 f1.length c1⟩ wr (hrd2.below hB) (by simp only [wlTape]; omega))
      unfold ETape.its at HT
      simp only at HT
      have p0 : wr.cell? ⟨b, off + k * 2, none⟩ = some (.slice A0 f0.length c0) := Sl.rec (f := ETape.vs) (s := 2) (fun _ => rfl) (hs.below' hB) HX.out (j := 0) rfl
      have p1 : wr.cell? ⟨b, off + k * 2 + 1, none⟩ = some (.slice A1 f1.length c1) := Sl.rec (f := ETape.vs) (s := 2) (fun _ => rfl) (hs.below' hB) HX.out (j := 1) rfl
      obtain ⟨n0, hn0⟩ : ∃ n, n = f0.length := ⟨_, rfl⟩
      rw [← hn0] at HT p0
      have HN0 := Lib.hid hn0
      clear hn0 ha0
      obtain ⟨n1, hn1⟩ : ∃ n, n = f1.length := ⟨_, rfl⟩
      rw [← hn1] at HT p1
      have HN1 := Lib.hid hn1
      clear hn1 ha1
      clear hrd2 hwl hst hs hr ha
      go_wp2_with fail
      refine HT.out.mono ?_
      rintro z w1 ⟨⟨v0, v1, rfl, hin1⟩, hb1⟩
      have hown2 := own_below' hown hb1
      have hB1 := below_step hB hb1
      have hlen : (rows ETape.vs es').length = k * 2 := by rw [rows_len (s := 2) (fun _ => rfl), HK.out]
      have hrl := rest_len (s := 2) hown2.1 hlen hlt
      obtain ⟨o0, q0⟩ := own_some hown2 (j := k * 2) (by omega)
      have z0 := hown2.frozenAt (k * 2)
      obtain ⟨o1, q1⟩ := own_some hown2 (j := k * 2 + 1) (by omega)
      have z1 := hown2.frozenAt (k * 2 + 1)
      obtain ⟨hp1, hp2⟩ := own_put2 hown2 hlen hrl (.slice (some ⟨v0, 0, none⟩) n0 n0) (.slice (some ⟨v1, 0, none⟩) n1 n1)
      have hin2 := (((hinn.below hb1).append hin1 hB.size hb1.size).kept hown2 hp2 (by decide)).wide hp2.size
      have HP1 := Lib.hid hp1; have HI2 := Lib.hid hin2
      have HB := Lib.hid (hB1.grown hp2 hB1.size (fun j hj => by injection hj with hj; omega))
      have HD2 : Hid ((es' ++ [(⟨⟨f0, f1⟩, .slice (some ⟨v0, 0, none⟩) n0 n0, .slice (some ⟨v1, 0, none⟩) n1 n1⟩ : ETape)]).map (·.d) = (es.take (k + 1)).map (·.d)) := by unfold Hid; rw [List.map_append, HD.out, List.take_add_one, HX.out, List.map_append]; rfl
      have HADR2 := Lib.hid (adrsTape_snoc HADR.out (Nat.le_trans hb1.size hp2.size) (x := (⟨⟨f0, f1⟩, .slice (some ⟨v0, 0, none⟩) n0 n0, .slice (some ⟨v1, 0, none⟩) n1 n1⟩ : ETape)) ⟨⟨v0, Nat.lt_of_lt_of_le (hin1.top 0 _ v0 rfl rfl) hp2.size, by show Value.slice _ n0 n0 = .slice _ f0.length f0.length; rw [← HN0.out]⟩, ⟨v1, Nat.lt_of_lt_of_le (hin1.top 1 _ v1 rfl rfl) hp2.size, by show Value.slice _ n1 n1 = .slice _ f1.length f1.length; rw [← HN1.out]⟩, trivial⟩)
      clear hown hown2 hinn hin1 hp1 hp2 hin2 hB1 hB hb1 hlen hrl HT p0 p1
      go_wp2_with fail
      go_roundw
      case rel =>
        refine ⟨k + 1, es' ++ [(⟨⟨f0, f1⟩, .slice (some ⟨v0, 0, none⟩) n0 n0, .slice (some ⟨v1, 0, none⟩) n1 n1⟩ : ETape)], rest.drop 2, by omega, by simp [HK.out], by go_num, ?_, ?_, HD2.out, HB.out, HADR2.out⟩
        · rw [rows_app, rows_one]; exact HP1.out
        · rw [List.flatMap_append, List.flatMap_append]
          have := HI2.out
          simp only [List.flatMap_cons, List.flatMap_nil, List.append_nil, ETape.us, ETape.its, ← HN0.out, ← HN1.out]
          exact this
      case measure => simp [intOf]; omega
    · obtain rfl : n = k := by omega
      go_wp2
      go_ret
      have hr0 : rest = [] := by
        have := hown.1
        rw [List.length_append, rows_len (s := 2) (fun _ => rfl), HK.out] at this
        exact List.eq_nil_of_length_eq_zero (by omega)
      subst hr0
      rw [List.append_nil] at hown
      refine ⟨rfl, ⟨es', ⟨?_, hinn, fun q hq => (hown.lt q hq).2⟩, ?_, HADR.out⟩, hB⟩
      · rw [HK.out]; exact hown
      · rw [HD.out, List.take_of_length_le (by have := HL.out; omega)]

set_option maxRecDepth 100000 in
set_option maxHeartbeats 1000000 in
theorem eqTapeS_any (A B : Option Addr) (n m c d : Nat) (es gs : List ETape) (w : World) (ha : Args 2 w A n (rows ETape.vs es)) (hra : RdsTape w es) (hb : Args 2 w B m (rows ETape.vs gs)) (hrb : RdsTape w gs) (hn : n ≤ 4194304) (hm : m ≤ 4194304) (hx : sumTape (es.map (·.d)) ≤ 4194304) (hy : sumTape (gs.map (·.d)) ≤ 4194304) :
    Calls Tryd.prog 33 #[.slice A n c, .slice B m d] w fun z w' => z = .returned (.bool (decide (es.map (·.d) = gs.map (·.d)))) ∧ Below w.heap.size w w' := by
  have HA : Hid (es.length = n) := by have := ha.1; rw [rows_len (s := 2) (fun _ => rfl)] at this; unfold Hid; omega
  have HB : Hid (gs.length = m) := by have := hb.1; rw [rows_len (s := 2) (fun _ => rfl)] at this; unfold Hid; omega
  have HX := Lib.hid hx; have HY := Lib.hid hy; clear hx hy
  by_cases hnm : n = m
  rotate_left
  · have hne : ((n : Int) != (m : Int)) = true := by simp; omega
    go_enter Tryd.func33, Tryd.ntmps33
    go_wp2
    go_ret
    refine ⟨ret_bool ?_, Below.refl _ _⟩
    symm
    apply decide_eq_false
    intro h
    have := congrArg List.length h
    simp only [List.length_map] at this
    have h2 := HA.out
    have h3 := HB.out
    omega
  subst hnm
  go_enter Tryd.func33, Tryd.ntmps33
  go_wp2
  go_loopw [5] (fun i wr => ∃ k : Nat, k ≤ n ∧ i = .int .i64 k ∧ Below w.heap.size w wr ∧ Hid ((es.map (·.d)).take k = (gs.map (·.d)).take k)) (fun i _ => n - (intOf i).toNat)
  case atStart => exact ⟨0, Nat.zero_le _, rfl, Below.refl _ _, rfl⟩
  case round =>
    obtain ⟨k, hk, rfl, hB, HR⟩ := hrel
    by_cases hlt : k < n
    rotate_left
    · go_wp2
      go_ret
      refine ⟨ret_bool ?_, hB⟩
      have h1 := HR.out
      have h2 := HA.out
      have h3 := HB.out
      rw [List.take_of_length_le (by simp; omega), List.take_of_length_le (by simp; omega)] at h1
      simp [h1]
    obtain ⟨b1, o1, rfl, hs1⟩ := ha.sl hlt
    obtain ⟨b2, o2, rfl, hs2⟩ := hb.sl hlt
    obtain ⟨e, HE⟩ := hget HA hlt
    obtain ⟨g, HG⟩ := hget HB hlt
    have hrd1 := hra e (List.mem_of_getElem? HE.out)
    have hrd2 := hrb g (List.mem_of_getElem? HG.out)
    have hwl1 := sumTape_at (xs := es.map (·.d)) (k := k) (x := e.d) (by rw [List.getElem?_map, HE.out]; rfl)
    have hwl2 := sumTape_at (xs := gs.map (·.d)) (k := k) (x := g.d) (by rw [List.getElem?_map, HG.out]; rfl)
    have hst1 := HX.out; have hst2 := HY.out
    have HED : Hid ((es.map (·.d))[k]? = some e.d) := by unfold Hid; rw [List.getElem?_map, HE.out]; rfl
    have HGD : Hid ((gs.map (·.d))[k]? = some g.d) := by unfold Hid; rw [List.getElem?_map, HG.out]; rfl
    obtain ⟨v, hv⟩ : ∃ v, decide (e.d = g.d) = v := ⟨_, rfl⟩
    have HC := Lib.hid (fun W (hW : Below w.heap.size w W) => eqTape_is e g v hv W (hrd1.below hW) (hrd2.below hW) (by omega) (by omega))
    have HV := Lib.hid hv
    obtain ⟨⟨A0, c0, hu0, ha0⟩, ⟨A1, c1, hu1, ha1⟩, -⟩ := hrd1
    obtain ⟨⟨B0, d0, hv0, hb0⟩, ⟨B1, d1, hv1, hb1⟩, -⟩ := hrd2
    have p0 : wr.cell? ⟨b1, o1 + k * 2, none⟩ = some (e.u0) := Sl.rec (f := ETape.vs) (s := 2) (fun _ => rfl) (hs1.below' hB) HE.out (j := 0) rfl
    have p1 : wr.cell? ⟨b1, o1 + k * 2 + 1, none⟩ = some (e.u1) := Sl.rec (f := ETape.vs) (s := 2) (fun _ => rfl) (hs1.below' hB) HE.out (j := 1) rfl
    have q0 : wr.cell? ⟨b2, o2 + k * 2, none⟩ = some (g.u0) := Sl.rec (f := ETape.vs) (s := 2) (fun _ => rfl) (hs2.below' hB) HG.out (j := 0) rfl
    have q1 : wr.cell? ⟨b2, o2 + k * 2 + 1, none⟩ = some (g.u1) := Sl.rec (f := ETape.vs) (s := 2) (fun _ => rfl) (hs2.below' hB) HG.out (j := 1) rfl
    rw [hu0] at HC p0
    rw [hv0] at HC q0
    obtain ⟨n0, hn0⟩ : ∃ n, n = e.d.f0.length := ⟨_, rfl⟩
    obtain ⟨m0, hm0⟩ : ∃ n, n = g.d.f0.length := ⟨_, rfl⟩
    rw [← hn0, ← hm0] at HC
    rw [← hn0] at p0
    rw [← hm0] at q0
    clear hn0 hm0 hu0 hv0 ha0 hb0
    rw [hu1] at HC p1
    rw [hv1] at HC q1
    obtain ⟨n1, hn1⟩ : ∃ n, n = e.d.f1.length := ⟨_, rfl⟩
    obtain ⟨m1, hm1⟩ : ∃ n, n = g.d.f1.length := ⟨_, rfl⟩
    rw [← hn1, ← hm1] at HC
    rw [← hn1] at p1
    rw [← hm1] at q1
    clear hn1 hm1 hu1 hv1 ha1 hb1
    clear hv hs1 hs2 ha hb hra hrb hwl1 hwl2 hst1 hst2
    cases v with
    | true =>
      have E2 : Hid (e.d = g.d) := of_decide_eq_true (p := e.d = g.d) HV.out
      go_wp2
      go_still_tail 8, (by kernel_rfl)
      change wpList _ _ _ _ _ wr.drew
      have hB2 := hB.drew
      clear hB p0 q0 p1 q1
      generalize wr.drew = w2 at hB2 ⊢
      go_wp2_with fail
      refine (HC.out _ hB2).mono ?_
      rintro z w3 ⟨rfl, hb3⟩
      go_wp2
      go_roundw
      case rel => exact ⟨k + 1, by omega, by go_num, below_step hB2 hb3, take_succ_eq HR.out HED.out HGD.out E2.out⟩
      case measure => simp [intOf]; omega
    | false =>
      have E2 : Hid (¬ e.d = g.d) := of_decide_eq_false (p := e.d = g.d) HV.out
      go_wp2
      go_still_tail 8, (by kernel_rfl)
      change wpList _ _ _ _ _ wr.drew
      have hB2 := hB.drew
      clear hB p0 q0 p1 q1
      generalize wr.drew = w2 at hB2 ⊢
      go_wp2_with fail
      refine (HC.out _ hB2).mono ?_
      rintro z w3 ⟨rfl, hb3⟩
      go_wp2
      go_ret
      exact ⟨ret_bool (by simp [ne_of_at HED.out HGD.out E2.out]), below_step hB2 hb3⟩

set_option maxRecDepth 100000 in
set_option maxHeartbeats 1000000 in
theorem szTapeS_any (A : Option Addr) (n c : Nat) (es : List ETape) (left : Int) (w : World) (ha : Args 2 w A n (rows ETape.vs es)) (hr : RdsTape w es) (h0 : 0 ≤ left) (h1 : left ≤ 1048576) (hn : n ≤ 9223372036854775807) (hw : ∀ e ∈ es, wbTape 9223372036854775807 e.d) :
    Calls Tryd.prog 24 #[.slice A n c, .int .i64 left] w fun z w' => (∃ q : Int, z = .returned (.int .i64 q) ∧ SzOut (n + sumTape (es.map (·.d))) left q) ∧ Below w.heap.size w w' := by
  have HL : Hid (es.length = n) := by have := ha.1; rw [rows_len (s := 2) (fun _ => rfl)] at this; unfold Hid; omega
  have HW := Lib.hid hw; clear hw
  by_cases h : (n : Int) ≤ left
  rotate_left
  · have h' : left - (n : Int) < 0 := by omega
    go_enter Tryd.func24, Tryd.ntmps24
    go_wp2
    go_ret
    exact ⟨⟨_, rfl, szOut_no (by omega)⟩, Below.refl _ _⟩
  have h' : ¬ left - (n : Int) < 0 := by omega
  go_enter Tryd.func24, Tryd.ntmps24
  go_wp2
  go_loopw [1, 5] (fun l i wr => ∃ k : Nat, k ≤ n ∧ i = .int .i64 k ∧ l = .int .i64 (left - (n : Int) - (sumTape ((es.map (·.d)).take k) : Int)) ∧ (n : Int) + (sumTape ((es.map (·.d)).take k) : Int) ≤ left ∧ Below w.heap.size w wr) (fun _ i _ => n - (intOf i).toNat)
  case atStart => exact ⟨0, Nat.zero_le _, rfl, by simp [sumTape], by simpa [sumTape] using h, Below.refl _ _⟩
  case round =>
    obtain ⟨k, hk, rfl, rfl, hle, hB⟩ := hrel
    by_cases hlt : k < n
    · obtain ⟨b, off, rfl, hs⟩ := ha.sl hlt
      obtain ⟨e, HX⟩ := hget HL hlt
      have hrd := hr e (List.mem_of_getElem? HX.out)
      have hwb := HW.out e (List.mem_of_getElem? HX.out)
      have HED : Hid ((es.map (·.d))[k]? = some e.d) := by unfold Hid; rw [List.getElem?_map, HX.out]; rfl
      have hst := sumTape_take HED.out
      have hsl := sumTape_le (es.map (·.d)) (k + 1)
      obtain ⟨p, hp⟩ : ∃ p, p = sumTape ((es.map (·.d)).take k) := ⟨_, rfl⟩
      rw [← hp] at hle hst ⊢
      have HST := Lib.hid hst; have HSL := Lib.hid hsl
      have HC := Lib.hid (szTape_any e (left - (n : Int) - (p : Int)) wr (hrd.below hB) (by omega) (by omega) hwb)
      obtain ⟨⟨A0, c0, hu0, ha0⟩, ⟨A1, c1, hu1, ha1⟩, -⟩ := hrd
      have p0 : wr.cell? ⟨b, off + k * 2, none⟩ = some (e.u0) := Sl.rec (f := ETape.vs) (s := 2) (fun _ => rfl) (hs.below' hB) HX.out (j := 0) rfl
      have p1 : wr.cell? ⟨b, off + k * 2 + 1, none⟩ = some (e.u1) := Sl.rec (f := ETape.vs) (s := 2) (fun _ => rfl) (hs.below' hB) HX.out (j := 1) rfl
      rw [hu0] at HC p0
      obtain ⟨n0, hn0⟩ : ∃ n, n = e.d.f0.length := ⟨_, rfl⟩
      rw [← hn0] at HC p0
      clear hn0 hu0 ha0
      rw [hu1] at HC p1
      obtain ⟨n1, hn1⟩ : ∃ n, n = e.d.f1.length := ⟨_, rfl⟩
      rw [← hn1] at HC p1
      clear hn1 hu1 ha1
      obtain ⟨wl, hwl⟩ : ∃ wl, wl = wlTape e.d := ⟨_, rfl⟩
      rw [← hwl] at HC HST
      clear hp hst hsl hs ha hr hwb h h' hwl
      have w1 : IntKind.i64.wrap (left - (n : Int) - (p : Int)) = left - (n : Int) - (p : Int) := IntWalk.i64_in _ (by omega)
      go_wp2_with fail
      refine HC.out.mono ?_
      rintro z w1 ⟨⟨q, rfl, hz⟩, hb1⟩
      unfold SzOut at hz
      have hB1 := below_step hB hb1
      rcases hz with ⟨z1, rfl⟩ | ⟨z1, rfl⟩
      · have z2 : ¬ left - (n : Int) - (p : Int) - (wl : Int) < 0 := by omega
        clear hb1 p0 p1
        go_wp2_with fail
        go_roundw
        case rel => exact ⟨k + 1, by omega, by go_num, by rw [HST.out]; congr 1; omega, by rw [HST.out]; omega, hB1⟩
        case measure => simp [intOf]; omega
      · clear hb1 p0 p1
        go_wp2_with fail
        go_ret
        exact ⟨⟨_, rfl, szOut_no (by have := HST.out; have := HSL.out; omega)⟩, hB1⟩
    · go_wp2
      go_ret
      obtain rfl : n = k := by omega
      rw [List.take_of_length_le (by rw [List.length_map]; have := HL.out; omega)] at hle ⊢
      exact ⟨⟨_, rfl, szOut_yes (by omega) (by omega)⟩, hB⟩

theorem szTapeS_is (A : Option Addr) (n c left r : Nat) (es : List ETape) (w : World) (ha : Args 2 w A n (rows ETape.vs es)) (hr : RdsTape w es) (h : r + (n + sumTape (es.map (·.d))) = left) (h1 : left ≤ 1048576) (hw : ∀ e ∈ es, wbTape 9223372036854775807 e.d) :
    Calls Tryd.prog 24 #[.slice A n c, .int .i64 left] w fun z w' => z = .returned (.int .i64 r) ∧ Below w.heap.size w w' := by
  refine (szTapeS_any A n c es left w ha hr (by omega) (by omega) (by omega) hw).mono ?_
  rintro e w' ⟨⟨z, rfl, hz⟩, hb⟩
  unfold SzOut at hz
  exact ⟨ret_int (by omega), hb⟩

theorem szTapeS_not (A : Option Addr) (n c left : Nat) (es : List ETape) (w : World) (ha : Args 2 w A n (rows ETape.vs es)) (hr : RdsTape w es) (h : left < n + sumTape (es.map (·.d))) (h1 : left ≤ 1048576) (hn : n ≤ 9223372036854775807) (hw : ∀ e ∈ es, wbTape 9223372036854775807 e.d) :
    Calls Tryd.prog 24 #[.slice A n c, .int .i64 left] w fun z w' => z = .returned (.int .i64 (-1)) ∧ Below w.heap.size w w' := by
  refine (szTapeS_any A n c es left w ha hr (by omega) (by omega) hn hw).mono ?_
  rintro e w' ⟨⟨z, rfl, hz⟩, hb⟩
  unfold SzOut at hz
  exact ⟨ret_int (by omega), hb⟩

theorem eqTapeS_is (A B : Option Addr) (n m c d : Nat) (es gs : List ETape) (xs : List DTape) (w : World) (ha : Args 2 w A n (rows ETape.vs es)) (hra : RdsTape w es) (hb : Args 2 w B m (rows ETape.vs gs)) (hrb : RdsTape w gs) (he : es.map (·.d) = xs) (hg : gs.map (·.d) = xs) (hn : n ≤ 4194304) (hm : m ≤ 4194304) (hx : sumTape xs ≤ 4194304) :
    Calls Tryd.prog 33 #[.slice A n c, .slice B m d] w fun z w' => z = .returned (.bool true) ∧ Below w.heap.size w w' := by
  refine (eqTapeS_any A B n m c d es gs w ha hra hb hrb hn hm (by rw [he]; exact hx) (by rw [hg]; exact hx)).mono ?_
  rintro z w' ⟨rfl, hb⟩
  exact ⟨ret_bool (by rw [he, hg]; simp), hb⟩

theorem widSumTape_of {es : List ETape} {xs : List DTape} (h : es.map (·.d) = xs) : widSum widTape es = 0 * xs.length + sumTape xs * 1 := by
  subst h
  induction es with
  | nil => simp [widSum, sumTape]
  | cons e l ih =>
    simp only [widSum, sumTape, widTape, List.map_cons, List.sum_cons, List.length_cons] at ih ⊢
    rw [ih]
    omega
theorem lensTape {es : List ETape} {xs : List DTape} (h : es.map (·.d) = xs) {m : Nat} (hm : sumTape xs ≤ m) : ∀ e ∈ es, wlTape e.d ≤ m := by
  intro e he
  have h1 : e.d ∈ xs := by rw [← h]; exact List.mem_map_of_mem he
  obtain ⟨k, hk⟩ := List.getElem?_of_mem h1
  exact Nat.le_trans (sumTape_at hk) hm

end Go.Proofs.YtgcedfpjgdeakaaDoor
