/- The law FnExactStepCost returns true for every input, and each argument reads afterwards as before: the proof, part 3. No conditions. -/
import Derived.Test.YtdnkkmmkkfbhhaaStepCostZb
import Derived.Maps.AppendAt
import Derived.Orders
import Derived.ArgAppend
/- The number whose digits are the cells of a side of the tape. -/
namespace Go.Proofs.Ytdnkkmmkkfbhhaa
open Go.RowKit
set_option linter.all false

def tapeN (s : Nat) : List Int → Option Nat
  | [] => some 0
  | x :: xs => (tapeN s xs).bind fun n => if n * s + x.toNat ≤ 1000000 then some (n * s + x.toNat) else none
def Digs (s : Nat) (xs : List Int) : Prop := ∀ x ∈ xs, 0 ≤ x ∧ x ≤ (s : Int) - 1
theorem tapeN_le {s n : Nat} : ∀ {xs : List Int}, tapeN s xs = some n → n ≤ 1000000
  | [], h => by simp [tapeN] at h; omega
  | x :: xs, h => by
    simp only [tapeN] at h
    cases hm : tapeN s xs with
    | none => rw [hm] at h; cases h
    | some m =>
      rw [hm, Option.bind_some] at h
      split at h
      · injection h with h; omega
      · cases h
theorem tapeN_drop {s : Nat} {xs : List Int} : ∀ {k : Nat}, tapeN s (xs.drop k) = none → tapeN s xs = none := by
  induction xs with
  | nil => intro k h; simp [tapeN] at h
  | cons x xs ih =>
    intro k h
    cases k with
    | zero => simpa using h
    | succ k =>
      have := ih (k := k) (by simpa using h)
      simp [tapeN, this]
theorem tapeN_at {s p m : Nat} {xs : List Int} {x : Int} (hx : xs[p]? = some x) (h : tapeN s (xs.drop (p + 1)) = some m) : tapeN s (xs.drop p) = if m * s + x.toNat ≤ 1000000 then some (m * s + x.toNat) else none := by
  rw [drop_at hx]
  simp only [tapeN, h, Option.bind_some]
theorem tapeN_rem {s n : Nat} {xs : List Int} (hs : 1 ≤ s) (hd : Digs s xs) (h : tapeN s xs = some n) : n % s = (xs.getD 0 0).toNat := by
  cases xs with
  | nil => simp [tapeN] at h; subst h; simp
  | cons x xs =>
    simp only [tapeN] at h
    cases hm : tapeN s xs with
    | none => rw [hm] at h; cases h
    | some m =>
      rw [hm, Option.bind_some] at h
      split at h
      · injection h with h
        have h1 := hd x (List.mem_cons_self ..)
        subst h
        rw [Nat.mul_comm, Nat.mul_add_mod]
        exact Nat.mod_eq_of_lt (by omega)
      · cases h
def numOf (o : Option Nat) : Int := match o with | some n => n | none => 0
def fullOf (o : Option Nat) : Int := match o with | some _ => 0 | none => 5
def okOf (o : Option Nat) : Bool := o.isSome

set_option maxRecDepth 100000 in
set_option maxHeartbeats 1000000 in
theorem tapeNumber_any (s n c : Nat) (A : Option Addr) (xs : List Int) (w : World) (ha : Arg w A n (xs.map (Value.int .i64))) (hn : n ≤ 1048576) (hs : 1 ≤ s) (hs6 : s ≤ 6) (hd : Digs s xs) :
    Calls Try.prog 39 #[.slice A n c, .int .i64 s] w fun e w' => e = .returned (.tuple #[.int .i64 (numOf (tapeN s xs)), .int .i64 (fullOf (tapeN s xs))]) ∧ w = w' := by
  have HL : Hid (xs.length = n) := by have := ha.1; rw [List.length_map] at this; exact this
  have HA := Lib.hid ha; have HD := Lib.hid hd
  have wn : IntKind.i64.wrap ((n : Int) - 1) = (n : Int) - 1 := IntWalk.i64_in _ (by omega)
  clear ha hd
  go_enter Try.func39, Try.ntmps39
  go_wp2
  go_loopw [6, 7] (fun z i wr => ∃ (k m : Nat), k ≤ n ∧ m ≤ 1000000 ∧ i = .int .i64 ((k : Int) - 1) ∧ z = .int .i64 m ∧ Hid (tapeN s (xs.drop k) = some m) ∧ Hid (w = wr)) (fun _ i _ => (intOf i + 1).toNat)
  case atStart => exact ⟨n, 0, Nat.le_refl _, Nat.zero_le _, rfl, rfl, by unfold Hid; rw [List.drop_of_length_le (by have := HL.out; omega)]; rfl, rfl⟩
  case round =>
    obtain ⟨k, m, hk, hm, rfl, rfl, HT, HW⟩ := hrel
    have hw := HW.out
    subst hw
    cases k with
    | zero =>
      have e0 : ((0 : Nat) : Int) - 1 = -1 := rfl
      rw [e0]
      have h0 : tapeN s xs = some m := HT.out
      have HF : Hid (numOf (tapeN s xs) = m ∧ fullOf (tapeN s xs) = 0) := by unfold Hid; rw [h0]; exact ⟨rfl, rfl⟩
      clear h0 wn
      go_wp2
      go_ret2
      exact ⟨by rw [HF.out.1, HF.out.2]; rfl, rfl⟩
    | succ p =>
      have e0 : ((p + 1 : Nat) : Int) - 1 = (p : Int) := by omega
      rw [e0]
      have hlt : p < n := by omega
      obtain ⟨x, HX⟩ := hget HL hlt
      obtain ⟨b, off, rfl, hsl⟩ := HA.out.sl hlt
      have hx := HD.out x (List.mem_of_getElem? HX.out)
      obtain ⟨y, rfl⟩ : ∃ y : Nat, x = y := ⟨x.toNat, by omega⟩
      have q0 := hsl.at (j := p) (u := .int .i64 (y : Int)) (by rw [List.getElem?_map, HX.out]; rfl)
      have hy6 : y ≤ 5 := by omega
      have hms : m * s ≤ 6000000 := Nat.le_trans (Nat.mul_le_mul hm hs6) (by omega)
      have hta := tapeN_at HX.out HT.out
      rw [Int.toNat_natCast] at hta
      obtain ⟨z, hz⟩ : ∃ z : Nat, z = m * s := ⟨_, rfl⟩
      have w1 : IntKind.i64.wrap ((m : Int) * (s : Int)) = (z : Int) := by
        have h1 : ((m * s : Nat) : Int) = (m : Int) * (s : Int) := by simp
        rw [← h1, hz]; exact IntWalk.i64_in _ (by omega)
      rw [← hz] at hta hms
      obtain ⟨t, ht⟩ : ∃ t : Nat, t = z + y := ⟨_, rfl⟩
      have w2 : IntKind.i64.wrap ((z : Int) + (y : Int)) = (t : Int) := by
        have h1 : ((z + y : Nat) : Int) = (z : Int) + (y : Int) := by simp
        rw [← h1, ← ht]; exact IntWalk.i64_in _ (by omega)
      rw [← ht] at hta
      have HTA := Lib.hid hta
      clear hx hta ht hz hsl wn
      have hpi : (p : Int) < (n : Int) := by omega
      by_cases h6 : t ≤ 1000000
      · have h6i : ¬ (1000000 : Int) < (t : Int) := by omega
        have HT2 : Hid (tapeN s (xs.drop p) = some t) := by have := HTA.out; rw [if_pos h6] at this; exact this
        have w3 : IntKind.i64.wrap ((p : Int) - 1) = (p : Int) - 1 := IntWalk.i64_in _ (by omega)
        go_wp2
        go_roundw
        case rel => exact ⟨p, t, by omega, h6, by go_num, by go_num, HT2, by first | exact rfl | exact trivial⟩
        case measure => first | (simp [intOf]; done) | (simp [intOf]; omega)
      · have h6i : (1000000 : Int) < (t : Int) := by omega
        have HF : Hid (numOf (tapeN s xs) = 0 ∧ fullOf (tapeN s xs) = 5) := by
          have h1 : tapeN s xs = none := tapeN_drop (k := p) (by have := HTA.out; rw [if_neg h6] at this; exact this)
          unfold Hid; rw [h1]; exact ⟨rfl, rfl⟩
        go_wp2
        go_ret2
        exact ⟨by rw [HF.out.1, HF.out.2]; rfl, rfl⟩

set_option maxRecDepth 100000 in
set_option maxHeartbeats 1000000 in
theorem l14Number_any (s n c : Nat) (A : Option Addr) (xs : List Int) (w : World) (ha : Arg w A n (xs.map (Value.int .i64))) (hn : n ≤ 1048576) (hs : 1 ≤ s) (hs6 : s ≤ 6) (hd : Digs s xs) :
    Calls Try.prog 30 #[.slice A n c, .int .i64 s] w fun e w' => e = .returned (.tuple #[.int .i64 (numOf (tapeN s xs)), .bool (okOf (tapeN s xs))]) ∧ w = w' := by
  have HL : Hid (xs.length = n) := by have := ha.1; rw [List.length_map] at this; exact this
  have HA := Lib.hid ha; have HD := Lib.hid hd
  have wn : IntKind.i64.wrap ((n : Int) - 1) = (n : Int) - 1 := IntWalk.i64_in _ (by omega)
  clear ha hd
  go_enter Try.func30, Try.ntmps30
  go_wp2
  go_loopw [6, 7] (fun z i wr => ∃ (k m : Nat), k ≤ n ∧ m ≤ 1000000 ∧ i = .int .i64 ((k : Int) - 1) ∧ z = .int .i64 m ∧ Hid (tapeN s (xs.drop k) = some m) ∧ Hid (w = wr)) (fun _ i _ => (intOf i + 1).toNat)
  case atStart => exact ⟨n, 0, Nat.le_refl _, Nat.zero_le _, rfl, rfl, by unfold Hid; rw [List.drop_of_length_le (by have := HL.out; omega)]; rfl, rfl⟩
  case round =>
    obtain ⟨k, m, hk, hm, rfl, rfl, HT, HW⟩ := hrel
    have hw := HW.out
    subst hw
    cases k with
    | zero =>
      have e0 : ((0 : Nat) : Int) - 1 = -1 := rfl
      rw [e0]
      have h0 : tapeN s xs = some m := HT.out
      have HF : Hid (numOf (tapeN s xs) = m ∧ okOf (tapeN s xs) = true) := by unfold Hid; rw [h0]; exact ⟨rfl, rfl⟩
      clear h0 wn
      go_wp2
      go_ret2
      exact ⟨by rw [HF.out.1, HF.out.2]; rfl, rfl⟩
    | succ p =>
      have e0 : ((p + 1 : Nat) : Int) - 1 = (p : Int) := by omega
      rw [e0]
      have hlt : p < n := by omega
      obtain ⟨x, HX⟩ := hget HL hlt
      obtain ⟨b, off, rfl, hsl⟩ := HA.out.sl hlt
      have hx := HD.out x (List.mem_of_getElem? HX.out)
      obtain ⟨y, rfl⟩ : ∃ y : Nat, x = y := ⟨x.toNat, by omega⟩
      have q0 := hsl.at (j := p) (u := .int .i64 (y : Int)) (by rw [List.getElem?_map, HX.out]; rfl)
      have hy6 : y ≤ 5 := by omega
      have hms : m * s ≤ 6000000 := Nat.le_trans (Nat.mul_le_mul hm hs6) (by omega)
      have hta := tapeN_at HX.out HT.out
      rw [Int.toNat_natCast] at hta
      obtain ⟨z, hz⟩ : ∃ z : Nat, z = m * s := ⟨_, rfl⟩
      have w1 : IntKind.i64.wrap ((m : Int) * (s : Int)) = (z : Int) := by
        have h1 : ((m * s : Nat) : Int) = (m : Int) * (s : Int) := by simp
        rw [← h1, hz]; exact IntWalk.i64_in _ (by omega)
      rw [← hz] at hta hms
      obtain ⟨t, ht⟩ : ∃ t : Nat, t = z + y := ⟨_, rfl⟩
      have w2 : IntKind.i64.wrap ((z : Int) + (y : Int)) = (t : Int) := by
        have h1 : ((z + y : Nat) : Int) = (z : Int) + (y : Int) := by simp
        rw [← h1, ← ht]; exact IntWalk.i64_in _ (by omega)
      rw [← ht] at hta
      have HTA := Lib.hid hta
      clear hx hta ht hz hsl wn
      have hpi : (p : Int) < (n : Int) := by omega
      by_cases h6 : t ≤ 1000000
      · have h6i : ¬ (1000000 : Int) < (t : Int) := by omega
        have HT2 : Hid (tapeN s (xs.drop p) = some t) := by have := HTA.out; rw [if_pos h6] at this; exact this
        have w3 : IntKind.i64.wrap ((p : Int) - 1) = (p : Int) - 1 := IntWalk.i64_in _ (by omega)
        go_wp2
        go_roundw
        case rel => exact ⟨p, t, by omega, h6, by go_num, by go_num, HT2, by first | exact rfl | exact trivial⟩
        case measure => first | (simp [intOf]; done) | (simp [intOf]; omega)
      · have h6i : (1000000 : Int) < (t : Int) := by omega
        have HF : Hid (numOf (tapeN s xs) = 0 ∧ okOf (tapeN s xs) = false) := by
          have h1 : tapeN s xs = none := tapeN_drop (k := p) (by have := HTA.out; rw [if_neg h6] at this; exact this)
          unfold Hid; rw [h1]; exact ⟨rfl, rfl⟩
        go_wp2
        go_ret2
        exact ⟨by rw [HF.out.1, HF.out.2]; rfl, rfl⟩

end Go.Proofs.Ytdnkkmmkkfbhhaa

/- 'append' of a whole slice onto a row of the call's own, with where the new row lies; rows that keep off it. Plain laws. -/
namespace Go.Proofs.Ytdnkkmmkkfbhhaa
open Go.RowKit
set_option linter.all false

theorem wpList_appy {P : Program} {w : World} {ops : Array Oper} {rest : List Oper} {o : Oper} {a : Act} {Q : Exit → Act → World → Prop} (hgd : o.guard = none) (s x : Operand) (t : TypeId)
    (ho : o.op = .call { callee := .builtin .append, args := #[s, x], argTypes := #[t, t] })
    {e : TypeId} {z : Value} {size bytes : Nat} (ht : P.underlying t = some (.slice e)) (hinfo : (P.info? e).map (fun i => (i.zero, i.size, i.bytes)) = some (some z, size, bytes)) (hzs : z.cells.size = size) (hsz : 0 < size)
    (base : Nat) {v : Value} {n : Nat} {xs : List Value} (hown : w.ownsRow base e size v n xs) (hbase : base ≤ w.heap.size) (hs : a.eval s = v)
    {u : Value} {m : Nat} {ys : List Value} (hsrc : Src size w u m ys) (hx : a.eval x = u) (h1 : ∀ u ∈ ys, u.oneCell' = true) (h63 : n + m ≤ maxLen) (hbytes : (n + m) * bytes ≤ 140737488355328)
    (h : ∀ v' w', w'.ownsRow base e size v' (n + m) (xs ++ ys) → w.grownBy w' v.ownBlock → (v'.ownBlock = v.ownBlock ∨ v'.ownBlock = some w.heap.size) → wpList P ops Q rest (a.put o.dst v') w') : wpList P ops Q (o :: rest) a w := by
  obtain ⟨i, hi, hz, hsize, hby⟩ := info_parts hinfo
  rcases hsrc.2 with ⟨rfl, rfl⟩ | ⟨b, off, c, rfl, hsl⟩
  · have hys : ys = [] := List.eq_nil_of_length_eq_zero (by simpa using hsrc.1)
    subst hys
    have hr := run_append_nothing (P := P) (w := w) base t o.type e i size ht hi v n xs hown 0
    refine wpList_plain hgd fun K hK => ?_
    unfold Oper.wp execOp
    simp only [ho, resolve, invoke, builtin, Sem.run_bind, Sem.run_pure, Result.andThen_ok, List.map_toArray, List.map_cons, List.map_nil, hs, hx, hr]
    exact hK _ _ (h v w (by simpa using hown) (World.grownBy.refl _ _) (.inl rfl))
  · refine wpList_append_own_at w hgd s x t ho base e i z size bytes ht hi hz hsize hby hzs hsz v n xs hs hown ⟨b, off, none⟩ m c ys hx hsrc.1 (fun j u hu => by rw [addr_add]; exact hsl.2 j u hu) h1 h63 hbytes hbase ?_
    intro v' w' h2 h3 _ h5
    exact h v' w' h2 h3 h5
/-- A row whose block lies below lo, or from hi on. -/
def OutB (lo hi : Nat) (v : Value) : Prop := ∀ k, v.ownBlock = some k → k < lo ∨ hi ≤ k
theorem OutB.low {w : World} {base lo hi : Nat} {e : TypeId} {size n : Nat} {v : Value} {xs : List Value} (h : w.ownsRow base e size v n xs) (hl : w.heap.size ≤ lo) : OutB lo hi v := fun k hk => .inl (Nat.lt_of_lt_of_le (h.lt k hk).2 hl)
theorem OutB.step {w : World} {lo hi : Nat} {v v' : Value} (h : OutB lo hi v) (hh : hi ≤ w.heap.size) (hl : v'.ownBlock = v.ownBlock ∨ v'.ownBlock = some w.heap.size) : OutB lo hi v' := by
  intro k hk
  rcases hl with hl | hl
  · exact h k (by rw [← hl]; exact hk)
  · rw [hl] at hk; injection hk with hk; exact .inr (hk ▸ hh)
theorem OutB.apart {w : World} {lo hi : Nat} {e : TypeId} {size n : Nat} {u v : Value} {xs : List Value} (h : OutB lo hi v) (own : w.ownsRow lo e size u n xs) (top : ∀ k, u.ownBlock = some k → k < hi) : u.ownBlock = none ∨ u.ownBlock ≠ v.ownBlock := by
  cases hu : u.ownBlock with
  | none => exact .inl rfl
  | some k =>
    refine .inr fun e2 => ?_
    have h1 := (own.lt k hu).1
    have h2 := top k hu
    rcases h k e2.symm with h3 | h3 <;> omega
end Go.Proofs.Ytdnkkmmkkfbhhaa

/- The assembler of machine programs: what holds of its memory while a program is built, and what a call leaves as it was. Plain laws. -/
namespace Go.Proofs.Ytdnkkmmkkfbhhaa
open Go.RowKit
set_option linter.all false

/-- A patch: a closure over the boxes of its target, the assembler, its index and its other target. -/
structure PatchV where
  bt : Nat
  ba : Nat
  bk : Nat
  bo : Nat
def PatchV.caps (p : PatchV) : Array Value := #[.pointer (some ⟨p.bt, 0, none⟩), .pointer (some ⟨p.ba, 0, none⟩), .pointer (some ⟨p.bk, 0, none⟩), .pointer (some ⟨p.bo, 0, none⟩)]
def PatchV.v (p : PatchV) : Value := .func (.func 74) #[] p.caps
/-- A spot: a variable of a number, from block lo on. -/
def Spot (lo : Nat) (W : World) (s : Nat) : Prop := lo ≤ s ∧ ∃ x : Int, W.heap[s]? = some (.cells #[.int .i64 x] 88 (0, 0))
def SpotP (lo : Nat) (W : World) (u : Value) : Prop := u = .pointer none ∨ ∃ s, u = .pointer (some ⟨s, 0, none⟩) ∧ Spot lo W s
/-- Block q holds the list of patches. -/
def PB (W : World) (ga q : Nat) : Prop := ∃ V P, W.heap[ga]? = some (.cells #[V, P] 85 (0, 0)) ∧ P.ownBlock = some q
structure PatchOk (lo ga n : Nat) (p : PatchV) (W : World) : Prop where
  a : W.heap[p.ba]? = some (.cells #[.pointer (some ⟨ga, 0, none⟩)] 70 (0, 0))
  k : ∃ k : Nat, k < n ∧ W.heap[p.bk]? = some (.cells #[.int .i64 k] 3 (0, 0))
  t : ∃ u, SpotP lo W u ∧ W.heap[p.bt]? = some (.cells #[u] 86 (0, 0))
  o : ∃ u, SpotP lo W u ∧ W.heap[p.bo]? = some (.cells #[u] 86 (0, 0))
/-- The assembler in block ga: n instructions, k patches. -/
structure AS (lo ga n k : Nat) (V P : Value) (cs : List Value) (ps : List PatchV) (W : World) : Prop where
  lo0 : lo ≤ ga
  var : W.heap[ga]? = some (.cells #[V, P] 85 (0, 0))
  list : W.ownsRow lo 110 4 V n cs
  pats : W.ownsRow lo 1 1 P k (ps.map PatchV.v)
  ok : ∀ p ∈ ps, PatchOk lo ga n p W
def St (lo ga n : Nat) (W : World) : Prop := ∃ V P cs ps, AS lo ga n n V P cs ps W
/-- What a call of the assembler leaves. -/
structure Ext (lo ga : Nat) (W W' : World) : Prop where
  below : Below lo W W'
  pb : ∀ q, q < W.heap.size → PB W' ga q → PB W ga q
  kept : ∀ (q : Nat) (cs : Array Value) (ty : TypeId) (fr : Nat × Nat), W.heap[q]? = some (.cells cs ty fr) → ty ≠ 85 → ty ≠ 110 → ty ≠ 88 → (ty ≠ 1 ∨ ¬ PB W ga q) → W'.heap[q]? = some (.cells cs ty fr)
  spot : ∀ (s : Nat) (x : Int), W.heap[s]? = some (.cells #[.int .i64 x] 88 (0, 0)) → ∃ y : Int, W'.heap[s]? = some (.cells #[.int .i64 y] 88 (0, 0))

section
variable {lo ga n m k : Nat} {A B C W W' W1 : World} {V P V' P' : Value} {cs cs' : List Value} {ps : List PatchV}
theorem Ext.size (h : Ext lo ga A B) : A.heap.size ≤ B.heap.size := h.below.size
theorem Ext.refl (lo ga : Nat) (W : World) : Ext lo ga W W := ⟨Below.refl _ _, fun _ _ h => h, fun _ _ _ _ h _ _ _ _ => h, fun _ x h => ⟨x, h⟩⟩
theorem Ext.trans (h : Ext lo ga A B) (k : Ext lo ga B C) : Ext lo ga A C :=
  ⟨h.below.trans k.below, fun q hq hp => h.pb q hq (k.pb q (Nat.lt_of_lt_of_le hq h.size) hp),
   fun q cs ty fr hq h1 h2 h3 h4 => k.kept q cs ty fr (h.kept q cs ty fr hq h1 h2 h3 h4) h1 h2 h3 (h4.imp id fun hn hp => hn (h.pb q (heap_lt hq) hp)),
   fun s x hx => by obtain ⟨y, hy⟩ := h.spot s x hx; exact k.spot s y hy⟩
/-- What lies behind the first world's end is free. -/
theorem Ext.after (h : Ext lo ga A B) (hg : ga < A.heap.size) (hl : lo ≤ A.heap.size) (hb : Below A.heap.size B C) : Ext lo ga A C :=
  ⟨h.below.trans (hb.mono hl), fun q hq ⟨V, P, h1, h2⟩ => h.pb q hq ⟨V, P, (hb.block ga hg).symm.trans h1, h2⟩,
   fun q cs ty fr hq h1 h2 h3 h4 => (hb.block q (heap_lt hq)).trans (h.kept q cs ty fr hq h1 h2 h3 h4),
   fun s x hx => by obtain ⟨y, hy⟩ := h.spot s x hx; exact ⟨y, (hb.block s (heap_lt hx)).trans hy⟩⟩
theorem Ext.of_below (hg : ga < A.heap.size) (hl : lo ≤ A.heap.size) (hb : Below A.heap.size A B) : Ext lo ga A B := (Ext.refl lo ga A).after hg hl hb
theorem Spot.ext {s : Nat} (h : Spot lo W s) (e : Ext lo ga W W') : Spot lo W' s := ⟨h.1, by obtain ⟨x, hx⟩ := h.2; exact e.spot s x hx⟩
theorem SpotP.ext {u : Value} (h : SpotP lo W u) (e : Ext lo ga W W') : SpotP lo W' u := by
  rcases h with h | ⟨s, h, hs⟩
  · exact .inl h
  · exact .inr ⟨s, h, hs.ext e⟩
theorem Spot.below {s : Nat} (h : Spot lo W s) (hb : Below W.heap.size W W') : Spot lo W' s := ⟨h.1, by obtain ⟨x, hx⟩ := h.2; exact ⟨x, (hb.block _ (heap_lt hx)).trans hx⟩⟩
theorem SpotP.below {u : Value} (h : SpotP lo W u) (hb : Below W.heap.size W W') : SpotP lo W' u := by
  rcases h with h | ⟨s, h, hs⟩
  · exact .inl h
  · exact .inr ⟨s, h, hs.below hb⟩
theorem PatchOk.ext {p : PatchV} (h : PatchOk lo ga n p W) (e : Ext lo ga W W') (hn : n ≤ m) : PatchOk lo ga m p W' := by
  obtain ⟨a, ⟨k, hk, h1⟩, ⟨u, hu, h2⟩, ⟨z, hz, h3⟩⟩ := h
  exact ⟨e.kept _ _ _ _ a (by decide) (by decide) (by decide) (.inl (by decide)),
    ⟨k, by omega, e.kept _ _ _ _ h1 (by decide) (by decide) (by decide) (.inl (by decide))⟩,
    ⟨u, hu.ext e, e.kept _ _ _ _ h2 (by decide) (by decide) (by decide) (.inl (by decide))⟩,
    ⟨z, hz.ext e, e.kept _ _ _ _ h3 (by decide) (by decide) (by decide) (.inl (by decide))⟩⟩
theorem AS.lt (h : AS lo ga n k V P cs ps W) : ga < W.heap.size := heap_lt h.var
theorem AS.lo1 (h : AS lo ga n k V P cs ps W) : lo ≤ W.heap.size := Nat.le_trans h.lo0 (Nat.le_of_lt h.lt)
theorem St.lt (h : St lo ga n W) : ga < W.heap.size := by obtain ⟨V, P, cs, ps, h⟩ := h; exact h.lt
theorem St.lo1 (h : St lo ga n W) : lo ≤ W.heap.size := by obtain ⟨V, P, cs, ps, h⟩ := h; exact h.lo1
theorem AS.below (h : AS lo ga n k V P cs ps W) (hb : Below W.heap.size W W') : AS lo ga n k V P cs ps W' :=
  ⟨h.lo0, (hb.block _ h.lt).trans h.var, own_below' h.list hb, own_below' h.pats hb, fun p hp => (h.ok p hp).ext (Ext.of_below h.lt h.lo1 hb) (Nat.le_refl _)⟩
theorem St.below (h : St lo ga n W) (hb : Below W.heap.size W W') : St lo ga n W' := by obtain ⟨V, P, cs, ps, h⟩ := h; exact ⟨V, P, cs, ps, h.below hb⟩

theorem own_grown {w w' : World} {base : Nat} {e : TypeId} {size : Nat} {v : Value} {xs : List Value} {row : Option Nat} (h : w.ownsRow base e size v n xs) (hg : w.grownBy w' row) (hne : ∀ g, v.ownBlock = some g → some g ≠ row) : w'.ownsRow base e size v n xs := by
  refine ⟨h.1, ?_⟩
  rcases h.2 with h2 | ⟨g, cap, cur, rfl, h1, hh, r⟩
  · exact .inl h2
  · exact .inr ⟨g, cap, cur, rfl, h1, grown_keep hg hh (hne g rfl), r⟩
theorem own_ne_own {w : World} {b1 b2 : Nat} {e1 e2 : TypeId} {s1 s2 n1 n2 : Nat} {v1 v2 : Value} {x1 x2 : List Value} (h1 : w.ownsRow b1 e1 s1 v1 n1 x1) (h2 : w.ownsRow b2 e2 s2 v2 n2 x2) (hne : e1 ≠ e2) : ∀ g, v1.ownBlock = some g → some g ≠ v2.ownBlock := by
  intro g hg
  rcases h1.2 with ⟨rfl, _⟩ | ⟨g', cap, cur, rfl, _, hh, _⟩
  · simp [Value.ownBlock] at hg
  · have : g' = g := by simpa [Value.ownBlock] using hg
    subst this
    exact own_ne_block h2 hh (Ne.symm hne)
theorem own_ext {base : Nat} {e : TypeId} {size : Nat} {v : Value} {xs : List Value} (h : W.ownsRow base e size v n xs) (x : Ext lo ga W W') (h1 : e ≠ 85) (h2 : e ≠ 110) (h3 : e ≠ 88) (h4 : e ≠ 1 ∨ ∀ q, v.ownBlock = some q → ¬ PB W ga q) : W'.ownsRow base e size v n xs := by
  refine ⟨h.1, ?_⟩
  rcases h.2 with h0 | ⟨g, cap, cur, rfl, hb, hh, r⟩
  · exact .inl h0
  · exact .inr ⟨g, cap, cur, rfl, hb, x.kept _ _ _ _ hh h1 h2 h3 (h4.imp id fun h => h g rfl), r⟩

/-- The list turns: an append, and its store. -/
theorem AS.push (h : AS lo ga n k V P cs ps W) (hg : W.grownBy W1 V.ownBlock) (ho : W1.ownsRow lo 110 4 V' m cs') (hm : n ≤ m) : AS lo ga m k V' P cs' ps (W1.setCell ⟨ga, 0, none⟩ V') ∧ Ext lo ga W (W1.setCell ⟨ga, 0, none⟩ V') := by
  have v1 := grown_keep hg h.var (own_ne_block h.list h.var (by decide))
  have v2 : (W1.setCell ⟨ga, 0, none⟩ V').heap[ga]? = some (.cells #[V', P] 85 (0, 0)) := heap_set v1 V'
  have keep : ∀ (q : Nat) (xs : Array Value) (ty : TypeId) (fr : Nat × Nat), W.heap[q]? = some (.cells xs ty fr) → ty ≠ 85 → ty ≠ 110 → (W1.setCell ⟨ga, 0, none⟩ V').heap[q]? = some (.cells xs ty fr) := fun q xs ty fr hq h1 h2 =>
    heap_set_other (grown_keep hg hq (own_ne_block h.list hq (Ne.symm h2))) ⟨ga, 0, none⟩ (heap_ne hq h.var h1) _
  have hx : Ext lo ga W (W1.setCell ⟨ga, 0, none⟩ V') := by
    refine ⟨((Below.refl lo W).grown hg h.lo1 (fun k hk => (h.list.lt k hk).1)).setCell (p := ⟨ga, 0, none⟩) h.lo0 _, fun q hq ⟨V2, P2, h1, h2⟩ => ?_, fun q xs ty fr hq h1 h2 _ _ => keep q xs ty fr hq h1 h2, fun s x hx => ⟨x, keep _ _ _ _ hx (by decide) (by decide)⟩⟩
    rw [v2] at h1
    simp only [Option.some.injEq, Obj.cells.injEq, Array.mk.injEq, List.cons.injEq, and_true] at h1
    exact ⟨V, P, h.var, by rw [h1.2]; exact h2⟩
  refine ⟨⟨h.lo0, v2, own_setCell ho (own_ne_block ho v1 (by decide)) _, ?_, fun p hp => (h.ok p hp).ext hx hm⟩, hx⟩
  have hp := own_grown h.pats hg (own_ne_own h.pats h.list (by decide))
  exact own_setCell hp (own_ne_block hp v1 (by decide)) _
/-- A patch more. -/
theorem AS.pushP (h : AS lo ga n k V P cs ps W) {p : PatchV} (hp : PatchOk lo ga n p W) (hg : W.grownBy W1 P.ownBlock) (ho : W1.ownsRow lo 1 1 P' (k + 1) (ps.map PatchV.v ++ [p.v])) (hw : P'.ownBlock = P.ownBlock ∨ P'.ownBlock = some W.heap.size) : AS lo ga n (k + 1) V P' cs (ps ++ [p]) (W1.setCell ⟨ga, 1, none⟩ P') ∧ Ext lo ga W (W1.setCell ⟨ga, 1, none⟩ P') := by
  have v1 := grown_keep hg h.var (own_ne_block h.pats h.var (by decide))
  have v2 : (W1.setCell ⟨ga, 1, none⟩ P').heap[ga]? = some (.cells #[V, P'] 85 (0, 0)) := heap_set v1 P'
  have keep : ∀ (q : Nat) (xs : Array Value) (ty : TypeId) (fr : Nat × Nat), W.heap[q]? = some (.cells xs ty fr) → ty ≠ 85 → (ty ≠ 1 ∨ ¬ PB W ga q) → (W1.setCell ⟨ga, 1, none⟩ P').heap[q]? = some (.cells xs ty fr) := by
    intro q xs ty fr hq h1 h2
    refine heap_set_other (grown_keep hg hq ?_) ⟨ga, 1, none⟩ (heap_ne hq h.var h1) _
    rcases h2 with h2 | h2
    · exact own_ne_block h.pats hq (Ne.symm h2)
    · exact fun e => h2 ⟨V, P, h.var, e.symm⟩
  have hx : Ext lo ga W (W1.setCell ⟨ga, 1, none⟩ P') := by
    refine ⟨((Below.refl lo W).grown hg h.lo1 (fun k hk => (h.pats.lt k hk).1)).setCell (p := ⟨ga, 1, none⟩) h.lo0 _, fun q hq ⟨V2, P2, h1, h2⟩ => ?_, fun q xs ty fr hq h1 _ _ h4 => keep q xs ty fr hq h1 h4, fun s x hx => ⟨x, keep _ _ _ _ hx (by decide) (.inl (by decide))⟩⟩
    rw [v2] at h1
    simp only [Option.some.injEq, Obj.cells.injEq, Array.mk.injEq, List.cons.injEq, and_true] at h1
    rw [← h1.2] at h2
    rcases hw with hw | hw
    · exact ⟨V, P, h.var, by rw [← hw]; exact h2⟩
    · rw [hw] at h2; injection h2 with h2; omega
  refine ⟨⟨h.lo0, v2, ?_, ?_, ?_⟩, hx⟩
  · have hl := own_grown h.list hg (own_ne_own h.list h.pats (by decide))
    exact own_setCell hl (own_ne_block hl v1 (by decide)) _
  · rw [List.map_append]; exact own_setCell ho (own_ne_block ho v1 (by decide)) _
  · intro q hq
    rcases List.mem_append.1 hq with hq | hq
    · exact (h.ok q hq).ext hx (Nat.le_refl _)
    · rw [List.mem_singleton] at hq; subst hq; exact hp.ext hx (Nat.le_refl _)
/-- A cell of an instruction turns. -/
theorem AS.set {g c : Nat} (h : AS lo ga n k (.slice (some ⟨g, 0, none⟩) n c) P cs ps W) (j : Nat) (u : Value) : AS lo ga n k (.slice (some ⟨g, 0, none⟩) n c) P (cs.set j u) ps (W.setCell ⟨g, j, none⟩ u) ∧ Ext lo ga W (W.setCell ⟨g, j, none⟩ u) := by
  obtain ⟨ho, hg⟩ := h.list.stored j u
  have v1 := grown_keep hg h.var (own_ne_block h.list h.var (by decide))
  have keep : ∀ (q : Nat) (xs : Array Value) (ty : TypeId) (fr : Nat × Nat), W.heap[q]? = some (.cells xs ty fr) → ty ≠ 110 → (W.setCell ⟨g, j, none⟩ u).heap[q]? = some (.cells xs ty fr) := fun q xs ty fr hq h2 => grown_keep hg hq (own_ne_block h.list hq (Ne.symm h2))
  have hx : Ext lo ga W (W.setCell ⟨g, j, none⟩ u) := by
    refine ⟨(Below.refl lo W).grown hg h.lo1 (fun k hk => (h.list.lt k hk).1), fun q hq ⟨V2, P2, h1, h2⟩ => ?_, fun q xs ty fr hq _ h2 _ _ => keep q xs ty fr hq h2, fun s x hx => ⟨x, keep _ _ _ _ hx (by decide)⟩⟩
    rw [v1] at h1
    simp only [Option.some.injEq, Obj.cells.injEq, Array.mk.injEq, List.cons.injEq, and_true] at h1
    exact ⟨_, P, h.var, by rw [h1.2]; exact h2⟩
  exact ⟨⟨h.lo0, v1, ho, own_grown h.pats hg (own_ne_own h.pats h.list (by decide)), fun p hp => (h.ok p hp).ext hx (Nat.le_refl _)⟩, hx⟩
/-- A spot turns. -/
theorem AS.spot {s : Nat} (h : AS lo ga n k V P cs ps W) (hs : Spot lo W s) (z : Int) : AS lo ga n k V P cs ps (W.setCell ⟨s, 0, none⟩ (.int .i64 z)) ∧ Ext lo ga W (W.setCell ⟨s, 0, none⟩ (.int .i64 z)) := by
  obtain ⟨hl, x, hx⟩ := hs
  have keep : ∀ (q : Nat) (xs : Array Value) (ty : TypeId) (fr : Nat × Nat), W.heap[q]? = some (.cells xs ty fr) → ty ≠ 88 → (W.setCell ⟨s, 0, none⟩ (.int .i64 z)).heap[q]? = some (.cells xs ty fr) := fun q xs ty fr hq h2 => heap_set_other hq ⟨s, 0, none⟩ (heap_ne hq hx h2) _
  have v1 := keep _ _ _ _ h.var (by decide)
  have hX : Ext lo ga W (W.setCell ⟨s, 0, none⟩ (.int .i64 z)) := by
    refine ⟨(Below.refl lo W).setCell (p := ⟨s, 0, none⟩) hl _, fun q hq ⟨V2, P2, h1, h2⟩ => ?_, fun q xs ty fr hq _ _ h3 _ => keep q xs ty fr hq h3, fun q y hy => ?_⟩
    · rw [v1] at h1
      simp only [Option.some.injEq, Obj.cells.injEq, Array.mk.injEq, List.cons.injEq, and_true] at h1
      exact ⟨_, P, h.var, by rw [h1.2]; exact h2⟩
    · by_cases hq : q = s
      · subst hq; exact ⟨z, heap_set hx _⟩
      · exact ⟨y, heap_set_other hy ⟨s, 0, none⟩ hq _⟩
  exact ⟨⟨h.lo0, v1, own_setCell h.list (own_ne_block h.list hx (by decide)) _, own_setCell h.pats (own_ne_block h.pats hx (by decide)) _, fun p hp => (h.ok p hp).ext hX (Nat.le_refl _)⟩, hX⟩
theorem St.spot {s : Nat} (h : St lo ga n W) (hs : Spot lo W s) (z : Int) : St lo ga n (W.setCell ⟨s, 0, none⟩ (.int .i64 z)) ∧ Ext lo ga W (W.setCell ⟨s, 0, none⟩ (.int .i64 z)) := by
  obtain ⟨V, P, cs, ps, h⟩ := h
  exact ⟨⟨V, P, cs, ps, (h.spot hs z).1⟩, (h.spot hs z).2⟩
end

/-- A call's end: nothing returned, n instructions, all else kept. -/
def Done (lo ga n : Nat) (W : World) (e : Ending) (w' : World) : Prop := e = .returned (.tuple #[]) ∧ St lo ga n w' ∧ Ext lo ga W w'
/-- A function value with its variables, and the number of instructions that it adds. -/
structure Pc where
  F : FuncId
  caps : Array Value
  len : Nat
def Pc.v (p : Pc) : Value := .func (.func p.F) #[] p.caps
structure PieceOk (lo ga : Nat) (W : World) (p : Pc) : Prop where
  lo1 : lo ≤ W.heap.size
  ga1 : ga < W.heap.size
  ent : ∀ (args : Array Value) (W : World), (callFunc p.F args).run Try.prog W = .ok (.enter p.F args) W
  run : ∀ (W' : World) (n : Nat) (u : Value), Ext lo ga W W' → St lo ga n W' → n + p.len ≤ 100000 → SpotP lo W' u → Calls Try.prog p.F (#[.pointer (some ⟨ga, 0, none⟩), u] ++ p.caps) W' (Done lo ga (n + p.len) W')
structure ThunkOk (lo ga : Nat) (W : World) (p : Pc) : Prop where
  lo1 : lo ≤ W.heap.size
  ga1 : ga < W.heap.size
  ent : ∀ (args : Array Value) (W : World), (callFunc p.F args).run Try.prog W = .ok (.enter p.F args) W
  run : ∀ (W' : World) (n : Nat), Ext lo ga W W' → St lo ga n W' → n + p.len ≤ 100000 → Calls Try.prog p.F (#[] ++ p.caps) W' (Done lo ga (n + p.len) W')
theorem PieceOk.ext {lo ga : Nat} {W W' : World} {p : Pc} (h : PieceOk lo ga W p) (e : Ext lo ga W W') : PieceOk lo ga W' p :=
  ⟨Nat.le_trans h.lo1 e.size, Nat.lt_of_lt_of_le h.ga1 e.size, h.ent, fun W2 n u h2 => h.run W2 n u (e.trans h2)⟩
theorem PieceOk.below {lo ga : Nat} {W W' : World} {p : Pc} (h : PieceOk lo ga W p) (e : Below W.heap.size W W') : PieceOk lo ga W' p := h.ext (Ext.of_below h.ga1 h.lo1 e)
theorem ThunkOk.ext {lo ga : Nat} {W W' : World} {p : Pc} (h : ThunkOk lo ga W p) (e : Ext lo ga W W') : ThunkOk lo ga W' p :=
  ⟨Nat.le_trans h.lo1 e.size, Nat.lt_of_lt_of_le h.ga1 e.size, h.ent, fun W2 n h2 => h.run W2 n (e.trans h2)⟩
theorem ThunkOk.below {lo ga : Nat} {W W' : World} {p : Pc} (h : ThunkOk lo ga W p) (e : Below W.heap.size W W') : ThunkOk lo ga W' p := h.ext (Ext.of_below h.ga1 h.lo1 e)
def lens (ps : List Pc) : Nat := (ps.map Pc.len).sum
theorem lens_take {ps : List Pc} {k : Nat} {p : Pc} (h : ps[k]? = some p) : lens (ps.take (k + 1)) = lens (ps.take k) + p.len := by
  simp [lens, List.take_add_one, h]
theorem lens_le (ps : List Pc) (k : Nat) : lens (ps.take k) ≤ lens ps := by
  have h : lens ps = lens (ps.take k) + lens (ps.drop k) := by
    unfold lens
    rw [← List.sum_append, ← List.map_append, List.take_append_drop]
  omega
/-- A slice of pieces of altogether L instructions. -/
def PiecesV (lo ga : Nat) (v : Value) (n L : Nat) (W : World) : Prop := ∃ ps : List Pc, ps.length = n ∧ lens ps = L ∧ (∃ b, W.ownsRow b 95 1 v n (ps.map Pc.v)) ∧ ∀ p ∈ ps, PieceOk lo ga W p
def ThunksV (lo ga : Nat) (v : Value) (n L : Nat) (W : World) : Prop := ∃ ps : List Pc, ps.length = n ∧ lens ps = L ∧ (∃ b, W.ownsRow b 1 1 v n (ps.map Pc.v)) ∧ (∀ q, v.ownBlock = some q → ¬ PB W ga q) ∧ ∀ p ∈ ps, ThunkOk lo ga W p
theorem PiecesV.ext {lo ga n L : Nat} {v : Value} {W W' : World} (h : PiecesV lo ga v n L W) (e : Ext lo ga W W') : PiecesV lo ga v n L W' := by
  obtain ⟨ps, h1, h2, ⟨b, h3⟩, h4⟩ := h
  exact ⟨ps, h1, h2, ⟨b, own_ext h3 e (by decide) (by decide) (by decide) (.inl (by decide))⟩, fun p hp => (h4 p hp).ext e⟩
theorem PiecesV.below {lo ga n L : Nat} {v : Value} {W W' : World} (h : PiecesV lo ga v n L W) (e : Below W.heap.size W W') : PiecesV lo ga v n L W' := by
  obtain ⟨ps, h1, h2, ⟨b, h3⟩, h4⟩ := h
  exact ⟨ps, h1, h2, ⟨b, own_below' h3 e⟩, fun p hp => (h4 p hp).below e⟩
theorem ThunksV.ext {lo ga n L : Nat} {v : Value} {W W' : World} (h : ThunksV lo ga v n L W) (e : Ext lo ga W W') : ThunksV lo ga v n L W' := by
  obtain ⟨ps, h1, h2, ⟨b, h3⟩, h5, h4⟩ := h
  exact ⟨ps, h1, h2, ⟨b, own_ext h3 e (by decide) (by decide) (by decide) (.inr h5)⟩, fun q hq hp => h5 q hq (e.pb q (h3.lt q hq).2 hp), fun p hp => (h4 p hp).ext e⟩
end Go.Proofs.Ytdnkkmmkkfbhhaa

/- A region that draws its order, walked by facts: what each operation leaves, whatever came before it; no order is named. Plain laws. -/
namespace Go.Proofs.Ytdnkkmmkkfbhhaa
open Go.RowKit
set_option linter.all false

/-- What an operation leaves, said of its value and the memory; what is added to memory leaves it true. -/
structure Fact where
  p : Value → World → Prop
  mono : ∀ v w w', p v w → Below w.heap.size w w' → p v w'
def factAt (fs : List Fact) (i : Nat) (v : Value) (w : World) : Prop := match fs[i]? with | some f => f.p v w | none => True
theorem factAt_mono {fs : List Fact} {i : Nat} {v : Value} {w w' : World} (h : factAt fs i v w) (hb : Below w.heap.size w w') : factAt fs i v w' := by
  unfold factAt at *
  split
  · rename_i f hf; rw [hf] at h; exact f.mono _ _ _ h hb
  · trivial
/-- One operation: from the facts of those that it waits for, its own. -/
def StepOk (P : Program) (fs : List Fact) (ds : List Nat) (Q : Exit → Act → World → Prop) (a0 : Act) (w0 : World) (i : Nat) (o : Oper) : Prop :=
  ∀ a w, Below w0.heap.size w0 w → (∀ t, ds.contains t = false → a.eval (.tmp t) = a0.eval (.tmp t)) →
    (∀ e ∈ o.after, Region.binds .any e = true → ∀ d, ds[e.on]? = some d → factAt fs e.on (a.eval (.tmp d)) w) →
    ∀ K : Act → World → Prop, (∀ v w', factAt fs i v w' → Below w.heap.size w w' → K (a.put o.dst v) w') → o.wp P a w K Q
def AllFrom (R : Nat → Oper → Prop) : Nat → List Oper → Prop
  | _, [] => True
  | k, o :: l => R k o ∧ AllFrom R (k + 1) l
theorem AllFrom.get {R : Nat → Oper → Prop} : ∀ {l : List Oper} {k : Nat}, AllFrom R k l → ∀ {j : Nat} {o : Oper}, l[j]? = some o → R (k + j) o
  | [], _, _, j, o, h => by simp at h
  | o' :: l, k, h, 0, o, hj => by simp at hj; subst hj; exact h.1
  | o' :: l, k, h, j + 1, o, hj => by
    have := h.2.get (j := j) (o := o) (by simpa using hj)
    rw [show k + (j + 1) = k + 1 + j by omega]; exact this
/-- The region's form: a slot for each operation, no guard, and no operation waits for a later one. -/
def regionOk (l : List Oper) (ds : List Nat) (n : Nat) : Bool :=
  decide (l.map (·.dst) = ds.map some) && decide ds.Nodup && ds.all (fun d => decide (d < n)) && l.all (fun o => o.guard.isNone) &&
    (List.range l.length).all fun i => match l[i]? with | some o => o.after.all fun e => decide (e.on < i) | none => true

def unlisted (b : Array Bool) : Nat := (b.toList.filter (!·)).length
theorem unlisted_set (b : Array Bool) (i : Nat) (h : b[i]? = some false) : unlisted (b.setIfInBounds i true) + 1 = unlisted b := by
  unfold unlisted
  have hi : i < b.size := (Array.getElem?_eq_some_iff.1 h).1
  have hx : b.toList[i]? = some false := by simpa using h
  rw [Array.toList_setIfInBounds]
  obtain ⟨l⟩ := b
  simp only at hx ⊢
  clear h hi
  induction l generalizing i with
  | nil => simp at hx
  | cons x l ih =>
    cases i with
    | zero => simp at hx; subst hx; simp
    | succ i =>
      rw [List.set_cons_succ, List.filter_cons, List.filter_cons]
      have := ih i (by simpa using hx)
      cases x <;> simp <;> omega
theorem all_of_none {b : Array Bool} (h : unlisted b = 0) (i : Nat) (hi : i < b.size) : b[i]? = some true := by
  unfold unlisted at h
  have h2 := List.eq_nil_of_length_eq_zero h
  rw [List.filter_eq_nil_iff] at h2
  have hx : b.toList[i]'(by simpa using hi) ∈ b.toList := List.getElem_mem _
  have := h2 _ hx
  rw [Array.getElem?_eq_getElem hi]
  simpa using this

theorem region_facts {P : Program} {id : Nat} {l : List Oper} {Q : Exit → Act → World → Prop} {a0 : Act} {w0 : World} (hm : P.follows .mixedOrders = true) (fs : List Fact) (ds : List Nat) (hok : regionOk l ds a0.tmps.size = true)
    (hstep : AllFrom (StepOk P fs ds Q a0 w0) 0 l)
    (hend : ∀ a w, Below w0.heap.size w0 w → a.defers = a0.defers → a.tmps.size = a0.tmps.size → (∀ t, ds.contains t = false → a.eval (.tmp t) = a0.eval (.tmp t)) → (∀ i d, ds[i]? = some d → factAt fs i (a.eval (.tmp d)) w) → Q .normal a w) :
    (Code.region id l.toArray true).wp P Q a0 w0 := by
  unfold regionOk at hok
  simp only [Bool.and_eq_true, decide_eq_true_eq, List.all_eq_true, List.mem_range] at hok
  obtain ⟨⟨⟨⟨hd, hnd⟩, hsz⟩, hgd⟩, hac⟩ := hok
  have hlen : l.length = ds.length := by have := congrArg List.length hd; simpa using this
  have hdst : ∀ {i : Nat} {o : Oper}, l[i]? = some o → ∃ d, o.dst = some d ∧ ds[i]? = some d := by
    intro i o h
    have h1 : (l.map (·.dst))[i]? = some o.dst := by rw [List.getElem?_map, h]; rfl
    rw [hd, List.getElem?_map] at h1
    cases h2 : ds[i]? with
    | none => rw [h2] at h1; simp at h1
    | some d => rw [h2] at h1; simp at h1; exact ⟨d, h1.symm, rfl⟩
  refine wp_region_any hm ?_
  have main : ∀ (fuel : Nat) (b : Array Bool) (a : Act) (w : World), unlisted b ≤ fuel → b.size = l.length → Below w0.heap.size w0 w → a.defers = a0.defers → a.tmps.size = a0.tmps.size → (∀ t, ds.contains t = false → a.eval (.tmp t) = a0.eval (.tmp t)) →
      (∀ i d, b[i]? = some true → ds[i]? = some d → factAt fs i (a.eval (.tmp d)) w) → wpAny P .any l.toArray Q fuel b a w := by
    have done : ∀ (b : Array Bool) (a : Act) (w : World), b.size = l.length → Below w0.heap.size w0 w → a.defers = a0.defers → a.tmps.size = a0.tmps.size → (∀ t, ds.contains t = false → a.eval (.tmp t) = a0.eval (.tmp t)) →
        (∀ i d, b[i]? = some true → ds[i]? = some d → factAt fs i (a.eval (.tmp d)) w) → Region.ready .any l.toArray b = [] → Q .normal a w := by
      intro b a w hbs hB hdf hts hin hf hr
      have hall : ∀ i, i < l.length → b[i]? = some true := by
        intro i
        induction i using Nat.strongRecOn with
        | _ i ih =>
          intro hi
          cases hbi : b[i]'(by omega) with
          | true => rw [Array.getElem?_eq_getElem (by omega), hbi]
          | false =>
            exfalso
            have hmem : i ∈ Region.ready .any l.toArray b := by
              rw [mem_ready]
              refine ⟨by simp [Array.getD, show i < b.size by omega, hbi], l[i], by simp [hi], fun e he _ => ?_⟩
              have h1 := hac i hi
              rw [List.getElem?_eq_getElem hi] at h1
              simp only [Array.all_eq_true_iff_forall_mem, decide_eq_true_eq] at h1
              have h2 := h1 e he
              have h3 := ih e.on h2 (by omega)
              simp [h3]
            rw [hr] at hmem; cases hmem
      refine hend a w hB hdf hts hin fun i d hid => ?_
      have hi : i < l.length := by rw [hlen]; exact (List.getElem?_eq_some_iff.1 hid).1
      exact hf i d (hall i hi) hid
    intro fuel
    induction fuel with
    | zero =>
      intro b a w hu hbs hB hdf hts hin hf
      have hr : Region.ready .any l.toArray b = [] := by
        rw [List.eq_nil_iff_forall_not_mem]
        intro i hi
        obtain ⟨h1, o, h2, _⟩ := mem_ready.1 hi
        have hil : i < l.length := by have := (Array.getElem?_eq_some_iff.1 h2).1; simpa using this
        have h3 := all_of_none (b := b) (by omega) i (by omega)
        simp [h3] at h1
      exact ⟨hr, done b a w hbs hB hdf hts hin hf hr⟩
    | succ fuel ih =>
      intro b a w hu hbs hB hdf hts hin hf
      refine ⟨done b a w hbs hB hdf hts hin hf, fun i hi => ?_⟩
      obtain ⟨h1, o, h2, h3⟩ := mem_ready.1 hi
      have hil : i < l.length := by have := (Array.getElem?_eq_some_iff.1 h2).1; simpa using this
      have ho : l[i]? = some o := by simpa using h2
      obtain ⟨d, hod, hid⟩ := hdst ho
      have hbi : b[i]? = some false := by
        rw [Array.getElem?_eq_getElem (by omega)]
        simp [Array.getD, show i < b.size by omega] at h1
        rw [h1]
      have hs := hstep.get ho
      rw [Nat.zero_add] at hs
      have hgn : o.guard = none := by have := hgd o (List.mem_of_getElem? ho); simpa using this
      unfold wpOp
      simp only [h2]
      have hw : Region.wanted o (yielded l.toArray a.tmps) = true := by simp [Region.wanted, hgn]
      rw [if_pos hw]
      refine .inl (hs a w hB hin (fun e he hb d' hd' => ?_) _ fun v w' hv hb' => ?_)
      · have h4 := h3 e he hb
        refine hf e.on d' ?_ hd'
        have hon : e.on < l.length := by rw [hlen]; exact (List.getElem?_eq_some_iff.1 hd').1
        rw [Array.getElem?_eq_getElem (by omega)]
        simp [Array.getD, show e.on < b.size by omega] at h4
        rw [h4]
      · have hev : ∀ t, t ≠ d → (a.put o.dst v).eval (.tmp t) = a.eval (.tmp t) := fun t ht => Act.eval_put fun d' hd' e => by
          rw [hod] at hd'; injection hd' with hd'; injection e with e; exact ht (by rw [hd']; exact e)
        have hdm : d ∈ ds := List.mem_of_getElem? hid
        have hself : (a.put o.dst v).eval (.tmp d) = v := by
          rw [hod]
          have := hsz d hdm
          simp [Act.put, Act.eval, hts, this]
        refine ih _ _ _ (by have := unlisted_set b i hbi; omega) (by simp [hbs]) (hB.trans (hb'.mono hB.size)) ?_ ?_ ?_ ?_
        · rw [hod]; exact hdf
        · rw [hod]; simp [Act.put, hts]
        · intro t ht
          rw [hev t (by rintro rfl; simp [hdm] at ht)]
          exact hin t ht
        · intro j d' hj hd'
          by_cases hji : j = i
          · subst hji
            rw [hid] at hd'; injection hd' with hd'; subst hd'
            rw [hself]; exact hv
          · have hne : d' ≠ d := by
              rintro rfl
              have e1 := (List.getElem?_eq_some_iff.1 hd')
              have e2 := (List.getElem?_eq_some_iff.1 hid)
              obtain ⟨a1, a2⟩ := e1
              obtain ⟨b1, b2⟩ := e2
              have hpw := List.pairwise_iff_getElem.1 hnd
              rcases Nat.lt_or_gt_of_ne hji with hlt | hlt
              · exact hpw j i a1 b1 hlt (by rw [a2, b2])
              · exact hpw i j b1 a1 hlt (by rw [a2, b2])
            rw [hev d' hne]
            refine factAt_mono (hf j d' ?_ hd') hb'
            rw [Array.getElem?_setIfInBounds_ne (Ne.symm hji)] at hj
            exact hj
  refine main l.toArray.size _ a0 _ ?_ (by simp) ?_ rfl rfl (fun _ _ => rfl) ?_
  · unfold unlisted; simp
  · exact ⟨rfl, rfl, rfl, Nat.le_refl _, fun _ _ => rfl⟩
  · intro i d hi _
    rw [Array.getElem?_replicate] at hi
    split at hi <;> simp at hi
end Go.Proofs.Ytdnkkmmkkfbhhaa

/- Operations at a state that is a letter, for regions walked by facts. Plain laws. -/
namespace Go.Proofs.Ytdnkkmmkkfbhhaa
open Go.RowKit
set_option linter.all false

theorem op_move {P : Program} {o : Oper} {a : Act} {w : World} {K : Act → World → Prop} {Q : Exit → Act → World → Prop} (x : Operand) (ho : o.op = .move x) {v : Value} (hx : a.eval x = v) (h : K (a.put o.dst v) w) : o.wp P a w K Q := by
  unfold Oper.wp; simp [execOp, ho, hx, Oper.upon]; exact h
theorem op_append {P : Program} {o : Oper} {a : Act} {w : World} {K : Act → World → Prop} {Q : Exit → Act → World → Prop} (s x : Operand) (t : TypeId)
    (ho : o.op = .call { callee := .builtin .append, args := #[s, x], argTypes := #[t, t] })
    {e : TypeId} {z : Value} {size bytes : Nat} (ht : P.underlying t = some (.slice e)) (hinfo : (P.info? e).map (fun i => (i.zero, i.size, i.bytes)) = some (some z, size, bytes)) (hzs : z.cells.size = size) (hsz : 0 < size)
    {g n : Nat} {xs : List Value} (hs : a.eval s = .slice (some ⟨g, 0, none⟩) n n) (hg : Sl w g 0 xs) (hxl : xs.length = n * size)
    {b off m c : Nat} {ys : List Value} (hx : a.eval x = .slice (some ⟨b, off, none⟩) m c) (hy : Sl w b off ys) (hyl : ys.length = m * size) (h1 : ∀ u ∈ ys, u.oneCell' = true) (h63 : n + m ≤ maxLen) (hbytes : (n + m) * bytes ≤ 140737488355328)
    (h : ∀ A c' w', Args size w' A (n + m) (xs ++ ys) → Below w.heap.size w w' → K (a.put o.dst (.slice A (n + m) c')) w') : o.wp P a w K Q := by
  obtain ⟨i, hi, hz, hsize, hby⟩ := info_parts hinfo
  have hnews : ∀ j u, ys[j]? = some u → w.cell? ((⟨b, off, none⟩ : Addr).add j) = some u := fun j u hu => by rw [addr_add]; exact hy.2 j u hu
  by_cases hm : m = 0
  · subst hm
    have hyn : ys = [] := List.eq_nil_of_length_eq_zero (by simpa using hyl)
    subst hyn
    have hrun := run_append_room_cells (P := P) w t o.type e i ht hi g 0 n n ⟨b, off, none⟩ 0 c [] (by simp) (by simp) (by simp) (by omega) (by simp) (by simp)
    unfold Oper.wp
    simp [execOp, ho, resolve, invoke, builtin, hs, hx, hrun, Result.andThen]
    have := h (some ⟨g, 0, none⟩) n w (by rw [List.append_nil]; exact Args.of_sl hg (by rw [hxl]; rfl)) (Below.refl _ _)
    exact this
  · obtain ⟨v', w', hrun, r1, r2⟩ := run_append_arg_grows (P := P) w t o.type e i z size bytes ht hi hz hsize hby hzs hsz ⟨g, 0, none⟩ n n xs hxl (fun j u hu => by rw [addr_add]; exact hg.2 j u hu) ⟨b, off, none⟩ m c ys hyl hnews (by omega) h63 hbytes
    unfold Oper.wp
    simp [execOp, ho, resolve, invoke, builtin, hs, hx, hrun, Result.andThen]
    obtain ⟨A, c', rfl⟩ := own_form r1
    exact h A c' w' (args_of_own r1) ⟨r2.os, r2.tape, r2.output, r2.size, fun k hk => r2.block k hk (by simp)⟩

end Go.Proofs.Ytdnkkmmkkfbhhaa

/- Facts for regions walked by facts: a value, a fresh row, a row that reads. Plain words. -/
namespace Go.Proofs.Ytdnkkmmkkfbhhaa
open Go.RowKit
set_option linter.all false

theorem kev {a : Act} {t : Tmp} {v : Value} (h : a.eval (.tmp t) = v) : a.tmps[t]?.getD undef = v := by
  rw [Act.eval] at h; simpa using h
def kcst (v : Value) : Fact := ⟨fun x _ => x = v, fun _ _ _ h _ => h⟩
def ksl (n : Nat) (xs : List Value) : Fact := ⟨fun x w => ∃ g, x = .slice (some ⟨g, 0, none⟩) n n ∧ Sl w g 0 xs, fun _ _ _ ⟨g, h, k⟩ hb => ⟨g, h, k.below' hb⟩⟩
def karg (s n : Nat) (xs : List Value) : Fact := ⟨fun x w => ∃ A c, x = .slice A n c ∧ Args s w A n xs, fun _ _ _ ⟨A, c, h, k⟩ hb => ⟨A, c, h, k.below hb⟩⟩
end Go.Proofs.Ytdnkkmmkkfbhhaa

/- A region that draws its order and whose last operation waits for all others: the others walked by facts, the last one at the end. Plain laws. -/
namespace Go.Proofs.Ytdnkkmmkkfbhhaa
open Go.RowKit
set_option linter.all false

/-- A later operation waits for operation i. -/
def waited (l : List Oper) (i : Nat) : Bool := (List.range l.length).any fun j => decide (i < j) && match l[j]? with | some o => o.after.toList.any (fun e => decide (e.on = i) && Region.binds .any e) | none => false
theorem waited_iff {l : List Oper} {i : Nat} (h : waited l i = true) : ∃ (j : Nat) (o : Oper) (e : Edge), i < j ∧ l[j]? = some o ∧ e ∈ o.after ∧ e.on = i ∧ Region.binds .any e = true := by
  unfold waited at h
  rw [List.any_eq_true] at h
  obtain ⟨j, hj, h⟩ := h
  rw [Bool.and_eq_true, decide_eq_true_eq] at h
  obtain ⟨h1, h2⟩ := h
  cases ho : l[j]? with
  | none => rw [ho] at h2; simp at h2
  | some o =>
    rw [ho] at h2
    simp only [List.any_eq_true, Bool.and_eq_true, decide_eq_true_eq, Array.mem_toList_iff] at h2
    obtain ⟨e, h3, h4, h5⟩ := h2
    exact ⟨j, o, e, h1, ho, h3, h4, h5⟩
def lastOk (l : List Oper) (z : Oper) : Bool := z.guard.isNone && z.after.all (fun e => decide (e.on < l.length)) && (List.range l.length).all (waited (l ++ [z]))

theorem region_facts_last {P : Program} {id : Nat} {l : List Oper} {z : Oper} {Q : Exit → Act → World → Prop} {a0 : Act} {w0 : World} (hm : P.follows .mixedOrders = true) (fs : List Fact) (ds : List Nat) (hok : regionOk l ds a0.tmps.size = true) (hlast : lastOk l z = true)
    (hstep : AllFrom (StepOk P fs ds Q a0 w0) 0 l)
    (hend : ∀ a w, Below w0.heap.size w0 w → a.defers = a0.defers → a.tmps.size = a0.tmps.size → (∀ t, ds.contains t = false → a.eval (.tmp t) = a0.eval (.tmp t)) → (∀ i d, ds[i]? = some d → factAt fs i (a.eval (.tmp d)) w) → ∀ K : Act → World → Prop, (∀ a' w', Q .normal a' w' → K a' w') → z.wp P a w K Q) :
    (Code.region id (l ++ [z]).toArray true).wp P Q a0 w0 := by
  unfold regionOk at hok
  simp only [Bool.and_eq_true, decide_eq_true_eq, List.all_eq_true, List.mem_range] at hok
  obtain ⟨⟨⟨⟨hd, hnd⟩, hsz⟩, hgd⟩, hac⟩ := hok
  unfold lastOk at hlast
  simp only [Bool.and_eq_true, List.all_eq_true, List.mem_range, Array.all_eq_true_iff_forall_mem, decide_eq_true_eq] at hlast
  obtain ⟨⟨hzg, hza⟩, hzw⟩ := hlast
  have hlen : l.length = ds.length := by have := congrArg List.length hd; simpa using this
  have hdst : ∀ {i : Nat} {o : Oper}, l[i]? = some o → ∃ d, o.dst = some d ∧ ds[i]? = some d := by
    intro i o h
    have h1 : (l.map (·.dst))[i]? = some o.dst := by rw [List.getElem?_map, h]; rfl
    rw [hd, List.getElem?_map] at h1
    cases h2 : ds[i]? with
    | none => rw [h2] at h1; simp at h1
    | some d => rw [h2] at h1; simp at h1; exact ⟨d, h1.symm, rfl⟩
  have hzl : (l ++ [z])[l.length]? = some z := by simp
  have hacz : ∀ (i : Nat) (o : Oper), (l ++ [z])[i]? = some o → ∀ e ∈ o.after, e.on < i := by
    intro i o ho e he
    by_cases hi : i < l.length
    · have h1 := hac i hi
      rw [List.getElem?_append_left hi] at ho
      rw [ho] at h1
      simp only [Array.all_eq_true_iff_forall_mem, decide_eq_true_eq] at h1
      exact h1 e he
    · have hi2 : i < (l ++ [z]).length := (List.getElem?_eq_some_iff.1 ho).1
      have : i = l.length := by simp at hi2; omega
      subst this
      rw [hzl] at ho; injection ho with ho; subst ho
      exact hza e he
  refine wp_region_any hm ?_
  have full : ∀ (b : Array Bool), b.size = l.length + 1 → Region.ready .any (l ++ [z]).toArray b = [] → ∀ i, i < l.length + 1 → b[i]? = some true := by
    intro b hbs hr i
    induction i using Nat.strongRecOn with
    | _ i ih =>
      intro hi
      cases hbi : b[i]'(by omega) with
      | true => rw [Array.getElem?_eq_getElem (by omega), hbi]
      | false =>
        exfalso
        have ho : (l ++ [z])[i]? = some ((l ++ [z])[i]'(by simp; omega)) := List.getElem?_eq_getElem _
        have hmem : i ∈ Region.ready .any (l ++ [z]).toArray b := by
          rw [mem_ready]
          refine ⟨by simp [Array.getD, show i < b.size by omega, hbi], _, (by rw [List.getElem?_toArray]; exact ho), fun e he _ => ?_⟩
          have h2 := hacz i _ ho e he
          have h3 := ih e.on h2 (by omega)
          simp [h3]
        rw [hr] at hmem; cases hmem
  have main : ∀ (fuel : Nat) (b : Array Bool) (a : Act) (w : World), unlisted b ≤ fuel → b.size = l.length + 1 → b[l.length]? = some false → (∀ (i : Nat) (o : Oper), b[i]? = some true → (l ++ [z])[i]? = some o → ∀ e ∈ o.after, Region.binds .any e = true → b[e.on]? = some true) → Below w0.heap.size w0 w → a.defers = a0.defers → a.tmps.size = a0.tmps.size → (∀ t, ds.contains t = false → a.eval (.tmp t) = a0.eval (.tmp t)) →
      (∀ i d, b[i]? = some true → ds[i]? = some d → factAt fs i (a.eval (.tmp d)) w) → wpAny P .any (l ++ [z]).toArray Q fuel b a w := by
    intro fuel
    induction fuel with
    | zero =>
      intro b a w hu hbs hbz hcl hB hdf hts hin hf
      exfalso
      have h3 := all_of_none (b := b) (by omega) l.length (by omega)
      rw [hbz] at h3; simp at h3
    | succ fuel ih =>
      intro b a w hu hbs hbz hcl hB hdf hts hin hf
      refine ⟨fun hr => ?_, fun i hi => ?_⟩
      · exfalso
        have := full b hbs hr l.length (by omega)
        rw [hbz] at this; simp at this
      obtain ⟨h1, o, h2, h3⟩ := mem_ready.1 hi
      have ho : (l ++ [z])[i]? = some o := by simpa using h2
      have hil : i < l.length + 1 := by have := (List.getElem?_eq_some_iff.1 ho).1; simpa using this
      have hon : ∀ e ∈ o.after, Region.binds .any e = true → b[e.on]? = some true := by
        intro e he hb
        have h4 := h3 e he hb
        have h5 := hacz i o ho e he
        rw [Array.getElem?_eq_getElem (by omega)]
        simp [Array.getD, show e.on < b.size by omega] at h4
        rw [h4]
      by_cases hiz : i = l.length
      · subst hiz
        rw [hzl] at ho; injection ho with ho; subst ho
        have hall : ∀ k, ∀ i, i < l.length → l.length - i ≤ k → b[i]? = some true := by
          intro k
          induction k with
          | zero => intro i h4 h5; omega
          | succ k ihk =>
            intro i h4 h5
            obtain ⟨j, oj, e, hj1, hj2, hj3, hj4, hj5⟩ := waited_iff (hzw i h4)
            have hjl : j < l.length + 1 := by have := (List.getElem?_eq_some_iff.1 hj2).1; simpa using this
            by_cases hjz : j = l.length
            · subst hjz
              rw [hzl] at hj2; injection hj2 with hj2; subst hj2
              have := hon e hj3 hj5
              rw [hj4] at this; exact this
            · have := hcl j oj (ihk j (by omega) (by omega)) hj2 e hj3 hj5
              rw [hj4] at this; exact this
        unfold wpOp
        simp only [h2]
        have hgn : z.guard = none := by simpa using hzg
        have hw : Region.wanted z (yielded (l ++ [z]).toArray a.tmps) = true := by simp [Region.wanted, hgn]
        rw [if_pos hw]
        refine .inl (hend a w hB hdf hts hin (fun i d hid => hf i d (hall _ i (by rw [hlen]; exact (List.getElem?_eq_some_iff.1 hid).1) (Nat.le_refl _)) hid) _ fun a' w' hq => ?_)
        have hr : Region.ready .any (l ++ [z]).toArray (b.setIfInBounds l.length true) = [] := by
          rw [List.eq_nil_iff_forall_not_mem]
          intro i hi
          obtain ⟨h4, o4, h5, h6⟩ := mem_ready.1 hi
          have hil : i < l.length + 1 := by have := (Array.getElem?_eq_some_iff.1 h5).1; simpa using this
          have h7 : (b.setIfInBounds l.length true)[i]? = some true := by
            by_cases hi2 : i = l.length
            · subst hi2; simp [hbs]
            · rw [Array.getElem?_setIfInBounds_ne (Ne.symm hi2)]; exact hall _ i (by omega) (Nat.le_refl _)
          simp [h7] at h4
        cases fuel with
        | zero => exact ⟨hr, hq⟩
        | succ fuel => exact ⟨fun _ => hq, fun i hi => by rw [hr] at hi; cases hi⟩
      · have ho' : l[i]? = some o := by rw [List.getElem?_append_left (by omega)] at ho; exact ho
        obtain ⟨d, hod, hid⟩ := hdst ho'
        have hbi : b[i]? = some false := by
          rw [Array.getElem?_eq_getElem (by omega)]
          simp [Array.getD, show i < b.size by omega] at h1
          rw [h1]
        have hs := hstep.get ho'
        rw [Nat.zero_add] at hs
        have hgn : o.guard = none := by have := hgd o (List.mem_of_getElem? ho'); simpa using this
        unfold wpOp
        simp only [h2]
        have hw : Region.wanted o (yielded (l ++ [z]).toArray a.tmps) = true := by simp [Region.wanted, hgn]
        rw [if_pos hw]
        refine .inl (hs a w hB hin (fun e he hb d' hd' => hf e.on d' (hon e he hb) hd') _ fun v w' hv hb' => ?_)
        have hev : ∀ t, t ≠ d → (a.put o.dst v).eval (.tmp t) = a.eval (.tmp t) := fun t ht => Act.eval_put fun d' hd' e => by
          rw [hod] at hd'; injection hd' with hd'; injection e with e; exact ht (by rw [hd']; exact e)
        have hdm : d ∈ ds := List.mem_of_getElem? hid
        have hself : (a.put o.dst v).eval (.tmp d) = v := by
          rw [hod]
          have := hsz d hdm
          simp [Act.put, Act.eval, hts, this]
        refine ih _ _ _ (by have := unlisted_set b i hbi; omega) (by simp [hbs]) (by rw [Array.getElem?_setIfInBounds_ne hiz]; exact hbz) ?_ (hB.trans (hb'.mono hB.size)) ?_ ?_ ?_ ?_
        · intro j oj hj hoj e he hb
          have hset : ∀ k, b[k]? = some true → (b.setIfInBounds i true)[k]? = some true := fun k hk => by
            by_cases hki : k = i
            · subst hki; rw [hbi] at hk; simp at hk
            · rw [Array.getElem?_setIfInBounds_ne (Ne.symm hki)]; exact hk
          by_cases hji : j = i
          · subst hji
            rw [ho] at hoj; injection hoj with hoj; subst hoj
            exact hset _ (hon e he hb)
          · rw [Array.getElem?_setIfInBounds_ne (Ne.symm hji)] at hj
            exact hset _ (hcl j oj hj hoj e he hb)
        · rw [hod]; exact hdf
        · rw [hod]; simp [Act.put, hts]
        · intro t ht
          rw [hev t (by rintro rfl; simp [hdm] at ht)]
          exact hin t ht
        · intro j d' hj hd'
          by_cases hji : j = i
          · subst hji
            rw [hid] at hd'; injection hd' with hd'; subst hd'
            rw [hself]; exact hv
          · have hne : d' ≠ d := by
              rintro rfl
              obtain ⟨a1, a2⟩ := List.getElem?_eq_some_iff.1 hd'
              obtain ⟨b1, b2⟩ := List.getElem?_eq_some_iff.1 hid
              have hpw := List.pairwise_iff_getElem.1 hnd
              rcases Nat.lt_or_gt_of_ne hji with hlt | hlt
              · exact hpw j i a1 b1 hlt (by rw [a2, b2])
              · exact hpw i j b1 a1 hlt (by rw [a2, b2])
            rw [hev d' hne]
            refine factAt_mono (hf j d' ?_ hd') hb'
            rw [Array.getElem?_setIfInBounds_ne (Ne.symm hji)] at hj
            exact hj
  have hu : unlisted (Array.replicate (l ++ [z]).toArray.size false) ≤ (l ++ [z]).toArray.size := by unfold unlisted; simp
  refine main (l ++ [z]).toArray.size _ a0 _ hu (by simp) (by simp) ?_ ?_ rfl rfl (fun _ _ => rfl) ?_
  · intro i o hi
    rw [Array.getElem?_replicate] at hi
    split at hi <;> simp at hi
  · exact ⟨rfl, rfl, rfl, Nat.le_refl _, fun _ _ => rfl⟩
  · intro i d hi _
    rw [Array.getElem?_replicate] at hi
    split at hi <;> simp at hi
theorem region_facts_l {P : Program} {id : Nat} {ops : List Oper} {z : Oper} {Q : Exit → Act → World → Prop} {a0 : Act} {w0 : World} (hm : P.follows .mixedOrders = true) (hz : ops.getLast? = some z) (fs : List Fact) (ds : List Nat) (hok : regionOk ops.dropLast ds a0.tmps.size = true) (hlast : lastOk ops.dropLast z = true)
    (hstep : AllFrom (StepOk P fs ds Q a0 w0) 0 ops.dropLast)
    (hend : ∀ a w, Below w0.heap.size w0 w → a.defers = a0.defers → a.tmps.size = a0.tmps.size → (∀ t, ds.contains t = false → a.eval (.tmp t) = a0.eval (.tmp t)) → (∀ i d, ds[i]? = some d → factAt fs i (a.eval (.tmp d)) w) → ∀ K : Act → World → Prop, (∀ a' w', Q .normal a' w' → K a' w') → z.wp P a w K Q) :
    (Code.region id ops.toArray true).wp P Q a0 w0 := by
  have h := region_facts_last (id := id) hm fs ds hok hlast hstep hend
  have he : ops.dropLast ++ [z] = ops := by
    have hne : ops ≠ [] := by rintro rfl; simp at hz
    rw [List.getLast?_eq_some_getLast hne] at hz
    injection hz with hz
    rw [← hz]; exact List.dropLast_concat_getLast hne
  rw [he] at h
  exact h
end Go.Proofs.Ytdnkkmmkkfbhhaa

/- A region that draws its order, whose last operation waits for all others, and of which one (number k) may write: walked by facts. Plain laws. -/
namespace Go.Proofs.Ytdnkkmmkkfbhhaa
open Go.RowKit
set_option linter.all false

/-- One operation: k leaves the relation Rk, every other one only adds to memory. -/
def StepK (P : Program) (fs : List Fact) (ds : List Nat) (Q : Exit → Act → World → Prop) (a0 : Act) (k : Nat) (I0 I1 : World → Prop) (Rk : World → World → Prop) (i : Nat) (o : Oper) : Prop :=
  (i ≠ k → ∀ a w, I1 w → (∀ t, ds.contains t = false → a.eval (.tmp t) = a0.eval (.tmp t)) →
    (∀ e ∈ o.after, Region.binds .any e = true → ∀ d, ds[e.on]? = some d → factAt fs e.on (a.eval (.tmp d)) w) →
    ∀ K : Act → World → Prop, (∀ v w', factAt fs i v w' → Below w.heap.size w w' → K (a.put o.dst v) w') → o.wp P a w K Q) ∧
  (i = k → ∀ a w, I0 w → (∀ t, ds.contains t = false → a.eval (.tmp t) = a0.eval (.tmp t)) →
    (∀ e ∈ o.after, Region.binds .any e = true → ∀ d, ds[e.on]? = some d → factAt fs e.on (a.eval (.tmp d)) w) →
    ∀ K : Act → World → Prop, (∀ v w', factAt fs i v w' → Rk w w' → I1 w' → K (a.put o.dst v) w') → o.wp P a w K Q)

theorem region_facts_k {P : Program} {id : Nat} {l : List Oper} {z : Oper} {Q : Exit → Act → World → Prop} {a0 : Act} {w0 : World} (hm : P.follows .mixedOrders = true) (fs : List Fact) (ds : List Nat) (k : Nat) (I0 I1 : World → Prop) (Rk : World → World → Prop) (h00 : I0 w0) (h01 : ∀ w, I0 w → I1 w) (hb0 : ∀ w w', I0 w → Below w.heap.size w w' → I0 w') (hb1 : ∀ w w', I1 w → Below w.heap.size w w' → I1 w')
    (hmk : ∀ j f, j ≠ k → fs[j]? = some f → ∀ v w w', f.p v w → Rk w w' → f.p v w') (hok : regionOk l ds a0.tmps.size = true) (hlast : lastOk l z = true)
    (hstep : AllFrom (StepK P fs ds Q a0 k I0 I1 Rk) 0 l)
    (hend : ∀ a w, I1 w → a.defers = a0.defers → a.tmps.size = a0.tmps.size → (∀ t, ds.contains t = false → a.eval (.tmp t) = a0.eval (.tmp t)) → (∀ i d, ds[i]? = some d → factAt fs i (a.eval (.tmp d)) w) → ∀ K : Act → World → Prop, (∀ a' w', Q .normal a' w' → K a' w') → z.wp P a w K Q) :
    (Code.region id (l ++ [z]).toArray true).wp P Q a0 w0 := by
  unfold regionOk at hok
  simp only [Bool.and_eq_true, decide_eq_true_eq, List.all_eq_true, List.mem_range] at hok
  obtain ⟨⟨⟨⟨hd, hnd⟩, hsz⟩, hgd⟩, hac⟩ := hok
  unfold lastOk at hlast
  simp only [Bool.and_eq_true, List.all_eq_true, List.mem_range, Array.all_eq_true_iff_forall_mem, decide_eq_true_eq] at hlast
  obtain ⟨⟨hzg, hza⟩, hzw⟩ := hlast
  have hlen : l.length = ds.length := by have := congrArg List.length hd; simpa using this
  have hdst : ∀ {i : Nat} {o : Oper}, l[i]? = some o → ∃ d, o.dst = some d ∧ ds[i]? = some d := by
    intro i o h
    have h1 : (l.map (·.dst))[i]? = some o.dst := by rw [List.getElem?_map, h]; rfl
    rw [hd, List.getElem?_map] at h1
    cases h2 : ds[i]? with
    | none => rw [h2] at h1; simp at h1
    | some d => rw [h2] at h1; simp at h1; exact ⟨d, h1.symm, rfl⟩
  have hzl : (l ++ [z])[l.length]? = some z := by simp
  have hacz : ∀ (i : Nat) (o : Oper), (l ++ [z])[i]? = some o → ∀ e ∈ o.after, e.on < i := by
    intro i o ho e he
    by_cases hi : i < l.length
    · have h1 := hac i hi
      rw [List.getElem?_append_left hi] at ho
      rw [ho] at h1
      simp only [Array.all_eq_true_iff_forall_mem, decide_eq_true_eq] at h1
      exact h1 e he
    · have hi2 : i < (l ++ [z]).length := (List.getElem?_eq_some_iff.1 ho).1
      have : i = l.length := by simp at hi2; omega
      subst this
      rw [hzl] at ho; injection ho with ho; subst ho
      exact hza e he
  refine wp_region_any hm ?_
  have full : ∀ (b : Array Bool), b.size = l.length + 1 → Region.ready .any (l ++ [z]).toArray b = [] → ∀ i, i < l.length + 1 → b[i]? = some true := by
    intro b hbs hr i
    induction i using Nat.strongRecOn with
    | _ i ih =>
      intro hi
      cases hbi : b[i]'(by omega) with
      | true => rw [Array.getElem?_eq_getElem (by omega), hbi]
      | false =>
        exfalso
        have ho : (l ++ [z])[i]? = some ((l ++ [z])[i]'(by simp; omega)) := List.getElem?_eq_getElem _
        have hmem : i ∈ Region.ready .any (l ++ [z]).toArray b := by
          rw [mem_ready]
          refine ⟨by simp [Array.getD, show i < b.size by omega, hbi], _, (by rw [List.getElem?_toArray]; exact ho), fun e he _ => ?_⟩
          have h2 := hacz i _ ho e he
          have h3 := ih e.on h2 (by omega)
          simp [h3]
        rw [hr] at hmem; cases hmem
  have main : ∀ (fuel : Nat) (b : Array Bool) (a : Act) (w : World), unlisted b ≤ fuel → b.size = l.length + 1 → b[l.length]? = some false → (∀ (i : Nat) (o : Oper), b[i]? = some true → (l ++ [z])[i]? = some o → ∀ e ∈ o.after, Region.binds .any e = true → b[e.on]? = some true) → (b[k]? = some false → I0 w) → I1 w → a.defers = a0.defers → a.tmps.size = a0.tmps.size → (∀ t, ds.contains t = false → a.eval (.tmp t) = a0.eval (.tmp t)) →
      (∀ i d, b[i]? = some true → ds[i]? = some d → factAt fs i (a.eval (.tmp d)) w) → wpAny P .any (l ++ [z]).toArray Q fuel b a w := by
    intro fuel
    induction fuel with
    | zero =>
      intro b a w hu hbs hbz hcl hB0 hB hdf hts hin hf
      exfalso
      have h3 := all_of_none (b := b) (by omega) l.length (by omega)
      rw [hbz] at h3; simp at h3
    | succ fuel ih =>
      intro b a w hu hbs hbz hcl hB0 hB hdf hts hin hf
      refine ⟨fun hr => ?_, fun i hi => ?_⟩
      · exfalso
        have := full b hbs hr l.length (by omega)
        rw [hbz] at this; simp at this
      obtain ⟨h1, o, h2, h3⟩ := mem_ready.1 hi
      have ho : (l ++ [z])[i]? = some o := by simpa using h2
      have hil : i < l.length + 1 := by have := (List.getElem?_eq_some_iff.1 ho).1; simpa using this
      have hon : ∀ e ∈ o.after, Region.binds .any e = true → b[e.on]? = some true := by
        intro e he hb
        have h4 := h3 e he hb
        have h5 := hacz i o ho e he
        rw [Array.getElem?_eq_getElem (by omega)]
        simp [Array.getD, show e.on < b.size by omega] at h4
        rw [h4]
      by_cases hiz : i = l.length
      · subst hiz
        rw [hzl] at ho; injection ho with ho; subst ho
        have hall : ∀ k, ∀ i, i < l.length → l.length - i ≤ k → b[i]? = some true := by
          intro k
          induction k with
          | zero => intro i h4 h5; omega
          | succ k ihk =>
            intro i h4 h5
            obtain ⟨j, oj, e, hj1, hj2, hj3, hj4, hj5⟩ := waited_iff (hzw i h4)
            have hjl : j < l.length + 1 := by have := (List.getElem?_eq_some_iff.1 hj2).1; simpa using this
            by_cases hjz : j = l.length
            · subst hjz
              rw [hzl] at hj2; injection hj2 with hj2; subst hj2
              have := hon e hj3 hj5
              rw [hj4] at this; exact this
            · have := hcl j oj (ihk j (by omega) (by omega)) hj2 e hj3 hj5
              rw [hj4] at this; exact this
        unfold wpOp
        simp only [h2]
        have hgn : z.guard = none := by simpa using hzg
        have hw : Region.wanted z (yielded (l ++ [z]).toArray a.tmps) = true := by simp [Region.wanted, hgn]
        rw [if_pos hw]
        refine .inl (hend a w hB hdf hts hin (fun i d hid => hf i d (hall _ i (by rw [hlen]; exact (List.getElem?_eq_some_iff.1 hid).1) (Nat.le_refl _)) hid) _ fun a' w' hq => ?_)
        have hr : Region.ready .any (l ++ [z]).toArray (b.setIfInBounds l.length true) = [] := by
          rw [List.eq_nil_iff_forall_not_mem]
          intro i hi
          obtain ⟨h4, o4, h5, h6⟩ := mem_ready.1 hi
          have hil : i < l.length + 1 := by have := (Array.getElem?_eq_some_iff.1 h5).1; simpa using this
          have h7 : (b.setIfInBounds l.length true)[i]? = some true := by
            by_cases hi2 : i = l.length
            · subst hi2; simp [hbs]
            · rw [Array.getElem?_setIfInBounds_ne (Ne.symm hi2)]; exact hall _ i (by omega) (Nat.le_refl _)
          simp [h7] at h4
        cases fuel with
        | zero => exact ⟨hr, hq⟩
        | succ fuel => exact ⟨fun _ => hq, fun i hi => by rw [hr] at hi; cases hi⟩
      · have ho' : l[i]? = some o := by rw [List.getElem?_append_left (by omega)] at ho; exact ho
        obtain ⟨d, hod, hid⟩ := hdst ho'
        have hbi : b[i]? = some false := by
          rw [Array.getElem?_eq_getElem (by omega)]
          simp [Array.getD, show i < b.size by omega] at h1
          rw [h1]
        have hs := hstep.get ho'
        rw [Nat.zero_add] at hs
        have hgn : o.guard = none := by have := hgd o (List.mem_of_getElem? ho'); simpa using this
        unfold wpOp
        simp only [h2]
        have hw : Region.wanted o (yielded (l ++ [z]).toArray a.tmps) = true := by simp [Region.wanted, hgn]
        rw [if_pos hw]
        suffices hgo : ∀ v w', factAt fs i v w' → ((i ≠ k ∧ Below w.heap.size w w') ∨ (i = k ∧ Rk w w' ∧ I1 w')) → wpAny P .any (l ++ [z]).toArray Q fuel (b.setIfInBounds i true) (a.put o.dst v) w' by
          by_cases hik : i = k
          · subst hik
            exact .inl (hs.2 rfl a w (hB0 hbi) hin (fun e he hb d' hd' => hf e.on d' (hon e he hb) hd') _ fun v w' hv hr hI => hgo v w' hv (.inr ⟨rfl, hr, hI⟩))
          · exact .inl (hs.1 hik a w hB hin (fun e he hb d' hd' => hf e.on d' (hon e he hb) hd') _ fun v w' hv hb' => hgo v w' hv (.inl ⟨hik, hb'⟩))
        intro v w' hv hb'
        have hev : ∀ t, t ≠ d → (a.put o.dst v).eval (.tmp t) = a.eval (.tmp t) := fun t ht => Act.eval_put fun d' hd' e => by
          rw [hod] at hd'; injection hd' with hd'; injection e with e; exact ht (by rw [hd']; exact e)
        have hdm : d ∈ ds := List.mem_of_getElem? hid
        have hself : (a.put o.dst v).eval (.tmp d) = v := by
          rw [hod]
          have := hsz d hdm
          simp [Act.put, Act.eval, hts, this]
        refine ih _ _ _ (by have := unlisted_set b i hbi; omega) (by simp [hbs]) (by rw [Array.getElem?_setIfInBounds_ne hiz]; exact hbz) ?_ ?_ ?_ ?_ ?_ ?_ ?_
        · intro j oj hj hoj e he hb
          have hset : ∀ k, b[k]? = some true → (b.setIfInBounds i true)[k]? = some true := fun k hk => by
            by_cases hki : k = i
            · subst hki; rw [hbi] at hk; simp at hk
            · rw [Array.getElem?_setIfInBounds_ne (Ne.symm hki)]; exact hk
          by_cases hji : j = i
          · subst hji
            rw [ho] at hoj; injection hoj with hoj; subst hoj
            exact hset _ (hon e he hb)
          · rw [Array.getElem?_setIfInBounds_ne (Ne.symm hji)] at hj
            exact hset _ (hcl j oj hj hoj e he hb)
        · intro hbk
          rcases hb' with ⟨hik, hb'⟩ | ⟨hik, hr, hI⟩
          · rw [Array.getElem?_setIfInBounds_ne hik] at hbk
            exact hb0 _ _ (hB0 hbk) hb'
          · subst hik
            rw [Array.getElem?_setIfInBounds_self] at hbk
            split at hbk <;> simp at hbk
        · rcases hb' with ⟨hik, hb'⟩ | ⟨hik, hr, hI⟩
          · exact hb1 _ _ hB hb'
          · exact hI
        · rw [hod]; exact hdf
        · rw [hod]; simp [Act.put, hts]
        · intro t ht
          rw [hev t (by rintro rfl; simp [hdm] at ht)]
          exact hin t ht
        · intro j d' hj hd'
          by_cases hji : j = i
          · subst hji
            rw [hid] at hd'; injection hd' with hd'; subst hd'
            rw [hself]; exact hv
          · have hne : d' ≠ d := by
              rintro rfl
              obtain ⟨a1, a2⟩ := List.getElem?_eq_some_iff.1 hd'
              obtain ⟨b1, b2⟩ := List.getElem?_eq_some_iff.1 hid
              have hpw := List.pairwise_iff_getElem.1 hnd
              rcases Nat.lt_or_gt_of_ne hji with hlt | hlt
              · exact hpw j i a1 b1 hlt (by rw [a2, b2])
              · exact hpw i j b1 a1 hlt (by rw [a2, b2])
            rw [hev d' hne]
            rw [Array.getElem?_setIfInBounds_ne (Ne.symm hji)] at hj
            have hfj := hf j d' hj hd'
            rcases hb' with ⟨hik, hb'⟩ | ⟨hik, hr, hI⟩
            · exact factAt_mono hfj hb'
            · unfold factAt at hfj ⊢
              split
              · rename_i f hff
                rw [hff] at hfj
                exact hmk j f (fun e => hji (e.trans hik.symm)) hff _ _ _ hfj hr
              · trivial
  have hu : unlisted (Array.replicate (l ++ [z]).toArray.size false) ≤ (l ++ [z]).toArray.size := by unfold unlisted; simp
  refine main (l ++ [z]).toArray.size _ a0 _ hu (by simp) (by simp) ?_ ?_ ?_ rfl rfl (fun _ _ => rfl) ?_
  · intro i o hi
    rw [Array.getElem?_replicate] at hi
    split at hi <;> simp at hi
  · exact fun _ => hb0 _ _ h00 ⟨rfl, rfl, rfl, Nat.le_refl _, fun _ _ => rfl⟩
  · exact h01 _ (hb0 _ _ h00 ⟨rfl, rfl, rfl, Nat.le_refl _, fun _ _ => rfl⟩)
  · intro i d hi _
    rw [Array.getElem?_replicate] at hi
    split at hi <;> simp at hi

theorem region_facts_lk {P : Program} {id : Nat} {ops : List Oper} {z : Oper} {Q : Exit → Act → World → Prop} {a0 : Act} {w0 : World} (hm : P.follows .mixedOrders = true) (hz : ops.getLast? = some z) (fs : List Fact) (ds : List Nat) (k : Nat) (I0 I1 : World → Prop) (Rk : World → World → Prop) (h00 : I0 w0) (h01 : ∀ w, I0 w → I1 w) (hb0 : ∀ w w', I0 w → Below w.heap.size w w' → I0 w') (hb1 : ∀ w w', I1 w → Below w.heap.size w w' → I1 w')
    (hmk : ∀ j f, j ≠ k → fs[j]? = some f → ∀ v w w', f.p v w → Rk w w' → f.p v w') (hok : regionOk ops.dropLast ds a0.tmps.size = true) (hlast : lastOk ops.dropLast z = true)
    (hstep : AllFrom (StepK P fs ds Q a0 k I0 I1 Rk) 0 ops.dropLast)
    (hend : ∀ a w, I1 w → a.defers = a0.defers → a.tmps.size = a0.tmps.size → (∀ t, ds.contains t = false → a.eval (.tmp t) = a0.eval (.tmp t)) → (∀ i d, ds[i]? = some d → factAt fs i (a.eval (.tmp d)) w) → ∀ K : Act → World → Prop, (∀ a' w', Q .normal a' w' → K a' w') → z.wp P a w K Q) :
    (Code.region id ops.toArray true).wp P Q a0 w0 := by
  have h := region_facts_k (id := id) hm fs ds k I0 I1 Rk h00 h01 hb0 hb1 hmk hok hlast hstep hend
  have he : ops.dropLast ++ [z] = ops := by
    have hne : ops ≠ [] := by rintro rfl; simp at hz
    rw [List.getLast?_eq_some_getLast hne] at hz
    injection hz with hz
    rw [← hz]; exact List.dropLast_concat_getLast hne
  rw [he] at h
  exact h
end Go.Proofs.Ytdnkkmmkkfbhhaa
