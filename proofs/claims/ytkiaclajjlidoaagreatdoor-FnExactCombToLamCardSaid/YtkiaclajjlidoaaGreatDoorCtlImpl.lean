/- CombToLam of the program. -/
import Derived.Test.YtkiaclajjlidoaaGreatDoorCtlSpec
import Derived.Maps.OwnOps
import Derived.Maps.OwnSet
import Derived.Maps.Views
import Derived.Maps.Keyed
namespace Go.Proofs.YtkiaclajjlidoaaGreatDoor
open Go.RowKit
open Go.Maps (Keyed)
set_option linter.all false

set_option maxRecDepth 100000 in
set_option maxHeartbeats 1000000 in
/-- Each element becomes what a function gives for it. -/
theorem substitutedLam_any (F : FuncId) (caps : Array Value) (f : R2 → List R2) (A : Option Addr) (n c mx : Nat) (xs : List R2) (w : World) (ha : Args 2 w A n (rows R2.vs xs)) (hn : n ≤ 400) (hmx : mx ≤ 10000) (hf : ∀ x, (f x).length ≤ mx)
    (hE : ∀ (args : Array Value) (W : World), (callFunc F args).run Tryz.prog W = .ok (.enter F args) W)
    (hF : Hid (∀ (x : R2) (W : World), x ∈ xs → Below w.heap.size w W → Calls Tryz.prog F (#[.agg #[.int .i64 x.a, .int .i64 x.b]] ++ caps) W fun e w' => ∃ v, e = .returned v ∧ Src 2 w' v (f x).length (rows R2.vs (f x)) ∧ Below W.heap.size W w')) :
    Calls Tryz.prog 27 #[.slice A n c, .func (.func F) #[] caps] w fun e w' => ∃ v, e = .returned v ∧ w'.ownsRow w.heap.size 45 2 v (xs.flatMap f).length (rows R2.vs (xs.flatMap f)) ∧ Below w.heap.size w w' := by
  have HL : Hid (xs.length = n) := by have := ha.1; rw [rows_len R2.vs_len] at this; unfold Hid; omega
  have HMX := Lib.hid hf; clear hf
  have hown0 : (w.alloc (.cells #[] 45)).ownsRow w.heap.size 45 2 (.slice (some ⟨w.heap.size, 0, none⟩) 0 0) 0 [] := own_empty w 45 2
  have hb0 := laid_below w (.cells #[] 45)
  go_enter Tryz.func27, Tryz.ntmps27
  go_wp2
  go_loopw [5, 11] (fun v i wr => ∃ (k m : Nat), k ≤ n ∧ m ≤ mx * k ∧ i = .int .i64 k ∧ Below w.heap.size w wr ∧ wr.ownsRow w.heap.size 45 2 v m (rows R2.vs ((xs.take k).flatMap f)) ∧ Hid (((xs.take k).flatMap f).length = m)) (fun _ i _ => n - (intOf i).toNat)
  case atStart => exact ⟨0, 0, Nat.zero_le _, by omega, rfl, hb0, hown0, rfl⟩
  case round =>
    obtain ⟨k, m, hk, hm, rfl, hB, hown, HN⟩ := hrel
    clear hb0 hown0
    obtain ⟨Av, cv, rfl⟩ := own_form hown
    by_cases hlt : k < n
    · obtain ⟨b, off, rfl, hs⟩ := ha.sl hlt
      obtain ⟨x, HX⟩ := hget HL hlt
      obtain ⟨p0, p1⟩ := (hs.below' hB).rec2 HX.out
      have HST := Lib.hid (flatStep f HX.out)
      have hfx := HMX.out x
      have hmk : mx * k ≤ 4000000 := Nat.le_trans (Nat.mul_le_mul hmx (show k ≤ 400 by omega)) (by omega)
      have hmul : mx * (k + 1) = mx * k + mx := Nat.mul_succ _ _
      have HMUL := Lib.hid hmul; clear hmul
      have hb1 := laid_below wr (.cells #[.int .i64 x.a, .int .i64 x.b] 44)
      have HF1 := Lib.hid (hF.out x _ (List.mem_of_getElem? HX.out) (below_step hB hb1))
      have HO := Lib.hid (one_rows_Lam' (f x))
      go_wp2_with fail
      refine HF1.out.mono ?_
      rintro e w1 ⟨v1, rfl, hsrc1, hb2⟩
      have hb12 := below_step hb1 hb2
      have hB1 := below_step hB hb12
      have hown1 := own_below' hown hb12
      clear p0 p1 hb1 hb2 hown
      obtain ⟨A1, c1, rfl⟩ := hsrc1.form
      go_wp2_with (at_builtin; refine wpList_appx rfl _ _ _ rfl Tryz.underlying24 infoLam rfl (by omega) w.heap.size hown1 hB1.size rfl hsrc1 rfl HO.out (by unfold maxLen; omega) (by omega) ?_; intro v2 w2 hown2 hg2 hnil2; have hB2 := grown_below hB1 hown1 (Nat.le_refl _) hg2; clear hnil2 hown1 hsrc1 hg2)
      go_roundw
      case rel => exact ⟨k + 1, m + (f x).length, by omega, by have := HMUL.out; omega, by go_num, hB2, by rw [HST.out, rows_app]; exact hown2, by have := HN.out; unfold Hid; rw [HST.out, List.length_append, this]⟩
      case measure => simp [intOf]; omega
    · rw [List.take_of_length_le (by have := HL.out; omega)] at hown HN
      go_wp2
      go_ret
      exact ⟨_, rfl, by rw [HN.out]; exact hown, hB⟩

def heldR (v : Value) : Option (DataW Value × List MemPlace) := some (.held v, [])
def nilS : Value := .slice none 0 0
def lookV (ps : List (Int × Value)) (a : Int) : Value := ((ps.find? fun p => p.1 == a).map (·.2)).getD nilS
theorem lookV_same (a : Int) (v : Value) (ps : List (Int × Value)) : lookV ((a, v) :: ps) a = v := by simp [lookV]
theorem lookV_other {k a : Int} (v : Value) (ps : List (Int × Value)) (h : a ≠ k) : lookV ((k, v) :: ps) a = lookV ps a := by
  unfold lookV
  rw [List.find?_cons_of_neg (by simpa using fun e => h e.symm)]
/-- A map of the call's own, from numbers to slices. -/
def CMap (w0 : World) (b n : Nat) (ps : List (Int × Value)) (W : World) : Prop :=
  (∃ D : DataW Value, W.ownsMap Tryz.prog 2 heldR b n D ∧ Maps.IsMap D ∧ ∀ a, D.atKey (.int .i64 a) (.held nilS) = .held (lookV ps a)) ∧ Below w0.heap.size w0 W ∧ w0.heap.size ≤ b
theorem CMap.start (w : World) : CMap w w.heap.size 0 [] (w.alloc (.map #[] 0)) :=
  ⟨⟨.map [], World.ownsMap_made _ _ _ _, Maps.isMap_empty, fun z => rfl⟩, laid_below _ _, Nat.le_refl _⟩
theorem CMap.below {w0 W W' : World} {b n : Nat} {ps : List (Int × Value)} (h : CMap w0 b n ps W) (hb : Below W.heap.size W W') : CMap w0 b n ps W' := by
  obtain ⟨⟨D, h1, h2⟩, h3, h4⟩ := h
  exact ⟨⟨D, h1.kept (row := none) ⟨hb.os, hb.tape, hb.output, hb.size, fun k hk _ => hb.block k hk⟩ (by simp), h2⟩, below_step h3 hb, h4⟩
theorem own_ne_mapS {w : World} {base : Nat} {e : TypeId} {size n : Nat} {v : Value} {xs : List Value} (h : w.ownsRow base e size v n xs) {H : Type} {P : Program} {k : TypeId} {R : Value → Option (DataW H × List MemPlace)} {b m : Nat} {D : DataW H} (hm : w.ownsMap P k R b m D) : some b ≠ v.ownBlock := by
  rcases h.2 with ⟨rfl, _⟩ | ⟨g, cap, cur, rfl, _, hg, _⟩
  · simp [Value.ownBlock]
  · intro e2
    have e3 : b = g := by injection e2
    subst e3
    obtain ⟨es, clock, hb, _⟩ := hm
    rw [hb] at hg
    injection hg with hg
    cases hg
theorem wpList_cmap {w0 w : World} {ops : Array Oper} {rest : List Oper} {o : Oper} {a : Act} {Q : Exit → Act → World → Prop} (hg : o.guard = none) (m x v : Operand) (hop : o.op = Op.insert 50 m x v)
    (b n : Nat) (ps : List (Int × Value)) (hm : a.eval m = .map (some b)) (h : CMap w0 b n ps w) (hn : n < 1000) (k : Int) (d : Value) (hx : a.eval x = .int .i64 k) (hv : a.eval v = d) (hk : (Lit.int .i64 k).wf = true)
    (hK : ∀ w', CMap w0 b (n + 1) ((k, d) :: ps) w' → (∀ (base : Nat) (e : TypeId) (s n : Nat) (V : Value) (xs : List Value), w.ownsRow base e s V n xs → w'.ownsRow base e s V n xs) → wpList Tryz.prog ops Q rest (a.put o.dst undef) w') : wpList Tryz.prog ops Q (o :: rest) a w := by
  obtain ⟨⟨D, h1, h2, h3⟩, hB, hb⟩ := h
  have law := Go.Maps.int_keyed Tryz.underlying2
  have HKEY : keyOf Tryz.prog 2 (.int .i64 k) = some (.int .i64 k) := Go.Maps.keyOf_int_mk Tryz.underlying2 hk
  refine wpList_plain hg fun K' hK' => ?_
  obtain ⟨w', hrun, h5, hg'⟩ := h1.update law Tryz.underlying50 (by unfold maxLen; omega) HKEY (val := d) (d := .held d) (ps := []) rfl
  unfold Oper.wp
  simp [execOp, hop, hm, hx, hv, hrun, Result.andThen]
  refine hK' _ _ ?_
  refine hK w' ⟨⟨_, h5, h2.put _ _, fun z => ?_⟩, ⟨hg'.os.trans hB.os, hg'.tape.trans hB.tape, hg'.output.trans hB.output, Nat.le_trans hB.size hg'.size, fun k hk => (hg'.block k (by have := hB.size; omega) (fun e => by injection e with e; omega)).trans (hB.block k hk)⟩, hb⟩
    (fun base e s n V xs ho => ho.kept hg' (.inr (own_ne_mapS ho h1).symm))
  by_cases e : z = k
  · subst e
    rw [Maps.atKey_put_same h2 (by unfold WideAt.IsKeyLit; trivial), lookV_same]
  · rw [Maps.atKey_put_other (fun e2 => e (by injection e2)), lookV_other _ _ e, h3]
theorem zeroLamS (w : World) : (zeroValue 24).run Tryz.prog w = .ok nilS w := by kernel_rfl
theorem wpList_cmap_look {w0 w : World} {ops : Array Oper} {rest : List Oper} {o : Oper} {a : Act} {Q : Exit → Act → World → Prop} (hg : o.guard = none) (m x : Operand) (hop : o.op = Op.lookup 50 m x false)
    (b n : Nat) (ps : List (Int × Value)) (hm : a.eval m = .map (some b)) (h : CMap w0 b n ps w) (k : Int) (hx : a.eval x = .int .i64 k) (hk : (Lit.int .i64 k).wf = true)
    (r : Value) (hr : lookV ps k = r) (hK : wpList Tryz.prog ops Q rest (a.put o.dst r) w) : wpList Tryz.prog ops Q (o :: rest) a w := by
  obtain ⟨⟨D, h1, h2, h3⟩, hB, hb⟩ := h
  have law := Go.Maps.int_keyed Tryz.underlying2
  have HKEY : keyOf Tryz.prog 2 (.int .i64 k) = some (.int .i64 k) := Go.Maps.keyOf_int_mk Tryz.underlying2 hk
  refine wpList_plain hg fun K' hK' => ?_
  obtain ⟨v, qs, hrun, hv⟩ := h1.lookup law Tryz.underlying50 (zeroLamS w) (zd := .held nilS) (zp := []) rfl HKEY
  rw [h3, hr] at hv
  have e : v = r := by
    have e1 := congrArg Prod.fst (Option.some.inj hv)
    exact DataW.held.inj e1
  subst e
  unfold Oper.wp
  simp [execOp, hop, hm, hx, hrun, Result.andThen]
  exact hK' _ _ hK
theorem lamVarC (k : Int) (w : World) : Calls Tryz.prog 29 #[.int .i64 k] w fun e w' => e = .returned (.agg #[.int .i64 0, .int .i64 k]) ∧ Below w.heap.size w w' := lamVarB k w

/-- What the closure holds. -/
structure CtClo (w0 : World) (b g : Nat) (ps : List (Int × Value)) (W : World) : Prop where
  box : W.heap[g]? = some (.cells #[.map (some b)] 50 (0, 0))
  map : CMap w0 b 4 ps W
theorem CtClo.below {w0 W W' : World} {b g : Nat} {ps : List (Int × Value)} (h : CtClo w0 b g ps W) (hb : Below W.heap.size W W') : CtClo w0 b g ps W' :=
  ⟨(hb.block _ (heap_lt h.box)).trans h.box, h.map.below hb⟩
set_option maxRecDepth 100000 in
theorem ctlClo_any (w0 : World) (b g : Nat) (ps : List (Int × Value)) (x : R2) (w : World) (h : CtClo w0 b g ps w) (hx : x.a = 0 ∨ x.a = 1 ∨ x.a = 2 ∨ x.a = 3 ∨ x.a = 4)
    (hsrc : ∀ a, a = 0 ∨ a = 1 ∨ a = 2 ∨ a = 3 → ∀ W, Below w.heap.size w W → Src 2 W (lookV ps a) (ctlT a).length (rows R2.vs (ctlT a))) :
    Calls Tryz.prog 28 #[.agg #[.int .i64 x.a, .int .i64 x.b], .pointer (some ⟨g, 0, none⟩)] w fun e w' => ∃ v, e = .returned v ∧ Src 2 w' v (ctlE x).length (rows R2.vs (ctlE x)) ∧ Below w.heap.size w w' := by
  obtain ⟨xa, xb⟩ := x
  dsimp only at hx
  obtain ⟨w1, HW1, B1, x1⟩ := al1 w (.cells #[.int .i64 xa, .int .i64 xb] 44)
  have H1 := Lib.hid (h.below B1)
  have c0 : w1.cell? ⟨w.heap.size, 0, none⟩ = some (.int .i64 xa) := by rw [cell_of_heap x1]; rfl
  have c1 : w1.cell? ⟨w.heap.size, 1, none⟩ = some (.int .i64 xb) := by rw [cell_of_heap x1]; rfl
  have cb : w1.cell? ⟨g, 0, none⟩ = some (.map (some b)) := by rw [cell_of_heap H1.out.box]; rfl
  have HB1 := Lib.hid B1
  by_cases h4 : xa = 4
  · subst h4
    have HE : Hid (ctlE ⟨4, xb⟩ = [⟨0, xb⟩]) := by unfold Hid ctlE; rw [if_pos rfl]
    have HLV := Lib.hid (lamVarC xb)
    clear h hx hsrc x1 B1
    go_enter Tryz.func28, Tryz.ntmps28
    rw [HW1.out] at cb
    go_wp2_with fail
    rw [← HW1.out]
    refine (HLV.out _).mono ?_
    rintro e w2 ⟨rfl, b2⟩
    go_wp2_with fail
    go_ret
    rw [HE.out]
    exact ⟨_, rfl, Src.of_sl (by have := sl_laid w2 #[.int .i64 0, .int .i64 xb] 45; simp at this; exact this) rfl, below_step (below_step HB1.out b2) (laid_below _ _)⟩
  · have hk : xa = 0 ∨ xa = 1 ∨ xa = 2 ∨ xa = 3 := by omega
    have HE : Hid (ctlE ⟨xa, xb⟩ = ctlT xa) := by unfold Hid ctlE; rw [if_neg h4]
    have hz : (xa == 4) = false := by rw [beq_eq_false_iff_ne]; exact h4
    have HSR := Lib.hid (hsrc xa hk w1 B1)
    obtain ⟨r, hr⟩ : ∃ r, lookV ps xa = r := ⟨_, rfl⟩
    have HWF : (Lit.int .i64 xa).wf = true := by rcases hk with rfl | rfl | rfl | rfl <;> rfl
    clear h hx hsrc x1 B1 h4 hk
    go_enter Tryz.func28, Tryz.ntmps28
    rw [HW1.out] at cb
    go_wp2_with (at_lookup; rw [← HW1.out]; refine wpList_cmap_look rfl _ _ rfl b 4 ps rfl H1.out.map xa rfl HWF r hr ?_)
    go_ret
    rw [HE.out]
    exact ⟨_, rfl, by rw [← hr]; exact HSR.out, HB1.out⟩

def ctPs (v0 v1 v2 v3 : Value) : List (Int × Value) := [(3, v3), (2, v2), (1, v1), (0, v0)]

set_option maxRecDepth 100000 in
set_option maxHeartbeats 4000000 in
theorem implCombToLam_any (b off n c : Nat) (xs : List R2) (w : World) (hs : Sl w b off (rows R2.vs xs)) (hl : xs.length = n) (hn : n ≤ 1048576) (hc : n ≤ c) (hf : ∀ x ∈ xs, x.wf) :
    Calls Tryz.prog 8 #[.slice (some ⟨b, off, none⟩) n c] w fun e w' => ∃ v, e = .returned (.tuple #[v, .int .i64 (combLam xs).2]) ∧ w'.ownsRow w.heap.size 45 2 v (combLam xs).1.length (rows R2.vs (combLam xs).1) ∧ Below w.heap.size w w' := by
  have HA := Lib.hid (Args.of_sl hs (n := n) (by rw [rows_len R2.vs_len, hl]))
  have HL := Lib.hid hl
  have hmm := @run_makeMap Tryz.prog
  rcases Bool.eq_false_or_eq_true (validC xs) with hv | hv
  rotate_left
  · have HF : Hid (combLam xs = ([], 1)) := by unfold Hid combLam; rw [if_neg (by rw [hv]; decide)]
    have HV := Lib.hid (validComb_is _ n c xs false hv w HA.out hn)
    clear hv hl hf hs hmm
    go_enter Tryz.func8, Tryz.ntmps8
    go_wp2_with fail
    refine HV.out.mono ?_
    rintro e w1 ⟨rfl, hb⟩
    go_wp2_with fail
    go_ret2
    rw [HF.out]
    exact ⟨_, rfl, World.ownsRow_nil _ _ _ _, hb⟩
  have HF : Hid (combLam xs = fitL (xs.flatMap ctlE)) := by unfold Hid combLam; rw [if_pos hv]
  have hn4 : n ≤ 400 := by have := validC_le hv; omega
  have HV := Lib.hid (validComb_is _ n c xs true hv w HA.out hn)
  have HVC := Lib.hid hv
  obtain ⟨lS, hlS⟩ : ∃ q, (tmOf txS).flat.length = q := ⟨_, rfl⟩
  obtain ⟨lK, hlK⟩ : ∃ q, (tmOf txK).flat.length = q := ⟨_, rfl⟩
  obtain ⟨lI, hlI⟩ : ∃ q, (tmOf txI).flat.length = q := ⟨_, rfl⟩
  have HRS := Lib.hid (lamOf_any ⟨#[94, 94, 94, 40, 40, 50, 32, 48, 41, 32, 40, 49, 32, 48, 41, 41]⟩ txS (tmOf txS) rfl (TxOk.of txS_ok))
  have HRK := Lib.hid (lamOf_any ⟨#[94, 94, 49]⟩ txK (tmOf txK) rfl (TxOk.of txK_ok))
  have HRI := Lib.hid (lamOf_any ⟨#[94, 48]⟩ txI (tmOf txI) rfl (TxOk.of txI_ok))
  have HT1 : Hid (ctlT 1 = (tmOf txS).flat) := rfl
  have HT2 : Hid (ctlT 2 = (tmOf txK).flat) := rfl
  have HT3 : Hid (ctlT 3 = (tmOf txI).flat) := rfl
  clear hv hl hf hs hlS hlK hlI
  go_enter Tryz.func8, Tryz.ntmps8
  go_wp2_with fail
  refine HV.out.mono ?_
  rintro e w1 ⟨rfl, b1⟩
  have HB1 := Lib.hid b1
  have HE := Lib.hid (enters_of' (P := Tryz.prog) Tryz.func28 (by kernel_rfl) rfl)
  obtain ⟨wA, HWA, bA, xA⟩ := al1 w1 (.map #[] 0)
  have hTA : CMap w1 w1.heap.size 0 [] wA := by rw [HWA.out]; exact CMap.start w1
  obtain ⟨wB, HWB, bB, xB⟩ := al1 wA (.cells #[.int .i64 2, .int .i64 0] 45)
  have hT := hTA.below bB
  have hsA : wA.heap.size = w1.heap.size + 1 := by rw [HWA.out]; simp
  have o0 : wB.ownsRow w1.heap.size 45 2 (.slice (some ⟨w1.heap.size + 1, 0, none⟩) 1 1) 1 (rows R2.vs [⟨2, 0⟩]) := by
    rw [hsA] at xB
    exact own_of_block (n := 1) (cap := 1) (s := 2) (xs := [.int .i64 2, .int .i64 0]) xB (by omega) rfl (by omega) (by unfold maxLen; omega)
  clear hTA xA xB bA bB b1 hsA
  go_wp2_with (refine wpList_cmap rfl _ _ _ rfl w1.heap.size _ _ rfl (by rw [← HWA.out, ← HWB.out]; exact hT) (by decide) _ _ rfl rfl (by decide) ?_; clear hT; intro w2 hT hk)
  replace o0 : w2.ownsRow w1.heap.size 45 2 (.slice (some ⟨w1.heap.size + 1, 0, none⟩) 1 1) 1 (rows R2.vs [⟨2, 0⟩]) := hk _ _ _ _ _ _ (by rw [← HWA.out, ← HWB.out]; exact o0)
  clear hk
  refine (HRS.out _).mono ?_
  rintro e w3 ⟨vS, rfl, oS, bb⟩
  replace hT := hT.below bb
  replace o0 := own_below' o0 bb
  clear bb
  go_wp2_with (refine wpList_cmap rfl _ _ _ rfl w1.heap.size _ _ rfl hT (by decide) _ _ rfl rfl (by decide) ?_; clear hT; intro w4 hT hk)
  replace o0 := hk _ _ _ _ _ _ o0
  replace oS := hk _ _ _ _ _ _ oS
  clear hk
  refine (HRK.out _).mono ?_
  rintro e w5 ⟨vK, rfl, oK, bb⟩
  replace hT := hT.below bb
  replace o0 := own_below' o0 bb
  replace oS := own_below' oS bb
  clear bb
  go_wp2_with (refine wpList_cmap rfl _ _ _ rfl w1.heap.size _ _ rfl hT (by decide) _ _ rfl rfl (by decide) ?_; clear hT; intro w6 hT hk)
  replace o0 := hk _ _ _ _ _ _ o0
  replace oS := hk _ _ _ _ _ _ oS
  replace oK := hk _ _ _ _ _ _ oK
  clear hk
  refine (HRI.out _).mono ?_
  rintro e w7 ⟨vI, rfl, oI, bb⟩
  replace hT := hT.below bb
  replace o0 := own_below' o0 bb
  replace oS := own_below' oS bb
  replace oK := own_below' oK bb
  clear bb
  go_wp2_with (refine wpList_cmap rfl _ _ _ rfl w1.heap.size _ _ rfl hT (by decide) _ _ rfl rfl (by decide) ?_; clear hT; intro w8 hT hk)
  replace o0 := hk _ _ _ _ _ _ o0
  replace oS := hk _ _ _ _ _ _ oS
  replace oK := hk _ _ _ _ _ _ oK
  replace oI := hk _ _ _ _ _ _ oI
  clear hk
  have HT4 := Lib.hid hT
  have s0 := Src.of_own o0
  have sS := Src.of_own oS
  have sK := Src.of_own oK
  have sI := Src.of_own oI
  obtain ⟨g, hg⟩ : ∃ g, g = w8.heap.size := ⟨_, rfl⟩
  obtain ⟨w9, HW9, b9, x9⟩ := al1 w8 (.cells #[.map (some w1.heap.size)] 50)
  have HCL : Hid (CtClo w1 w1.heap.size g (ctPs (.slice (some ⟨w1.heap.size + 1, 0, none⟩) 1 1) vS vK vI) w9) := ⟨by rw [hg]; exact x9, hT.below b9⟩
  have HSRC : Hid (∀ W, Below w9.heap.size w9 W → ∀ a, a = 0 ∨ a = 1 ∨ a = 2 ∨ a = 3 → Src 2 W (lookV (ctPs (.slice (some ⟨w1.heap.size + 1, 0, none⟩) 1 1) vS vK vI) a) (ctlT a).length (rows R2.vs (ctlT a))) := by
    intro W hW a ha
    have hb := below_step b9 hW
    rcases ha with rfl | rfl | rfl | rfl
    · exact s0.below hb
    · exact sS.below hb
    · exact sK.below hb
    · exact sI.below hb
  have HB9 := Lib.hid (below_step HB1.out (below_step hT.2.1 b9))
  have HF1 : Hid (∀ (x : R2) (W : World), x ∈ xs → Below w9.heap.size w9 W → Calls Tryz.prog 28 (#[.agg #[.int .i64 x.a, .int .i64 x.b]] ++ #[.pointer (some ⟨g, 0, none⟩)]) W fun e w' => ∃ v, e = .returned v ∧ Src 2 w' v (ctlE x).length (rows R2.vs (ctlE x)) ∧ Below W.heap.size W w') := by
    intro x W hx hW
    exact ctlClo_any w1 w1.heap.size g _ x W (HCL.out.below hW) (validC_kind HVC.out hx) (fun a ha W' hW' => HSRC.out W' (below_step hW hW') a ha)
  have HSUB := Lib.hid (substitutedLam_any 28 #[.pointer (some ⟨g, 0, none⟩)] ctlE _ n c 60 xs w9 (HA.out.below HB9.out) hn4 (by omega) ctlE_len HE.out HF1.out)
  obtain ⟨m, hm⟩ : ∃ m, (xs.flatMap ctlE).length = m := ⟨_, rfl⟩
  have hm3 : m ≤ 24000 := by
    have := flatLen ctlE 60 ctlE_len xs
    have := HL.out
    omega
  rw [hm] at HSUB
  clear hT o0 oS oK oI s0 sS sK sI x9 b9 hm
  go_wp2_with fail
  rw [← hg, ← HW9.out]
  refine HSUB.out.mono ?_
  rintro e w10 ⟨v10, rfl, o10, b10⟩
  obtain ⟨A10, c10, rfl⟩ := own_form o10
  have HO10 := Lib.hid (own_base o10 HB9.out.size)
  have HB10 := Lib.hid (below_step HB9.out b10)
  clear o10 b10
  go_wp2_with fail
  refine (checkedLam_any w.heap.size m c10 A10 _ w10 HO10.out (by omega)).mono ?_
  rintro e w11 ⟨v, rfl, own3, b3⟩
  have HO3 := Lib.hid own3
  clear own3
  go_wp2_with fail
  go_ret2
  rw [HF.out]
  exact ⟨_, rfl, HO3.out, below_step HB10.out b3⟩
end Go.Proofs.YtkiaclajjlidoaaGreatDoor
