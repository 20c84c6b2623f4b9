/- EvalExpr by the reference: l22Store, l22Eval. -/
import Derived.Test.YtgcedfpjgdeakaaEvSpec1
import Derived.Test.YtgcedfpjgdeakaaPairTrees
import Derived.Test.YtgcedfpjgdeakaaCompare
import Derived.Test.YtgcedfpjgdeakaaTreeDepth
import Derived.StillTailTactics
import Derived.Test.YtgcedfpjgdeakaaSGrid
namespace Go.Proofs.Ytgcedfpjgdeakaa
open Go.RowKit
set_option linter.all false

/-- Lists in the cells of a row, each nil or with cells that are there, and with room for itself. -/
def Srcc (w : World) (vs : List Value) (ts : List (List Bool)) : Prop :=
  vs.length = ts.length ∧ ∀ (j : Nat) (v : Value) (t : List Bool), vs[j]? = some v → ts[j]? = some t → Src 1 w v t.length (t.map .bool) ∧ ∃ A c, v = .slice A t.length c ∧ t.length ≤ c
theorem Srcc.below {w w' : World} {vs : List Value} {ts : List (List Bool)} (h : Srcc w vs ts) (hb : Below w.heap.size w w') : Srcc w' vs ts :=
  ⟨h.1, fun j v t h1 h2 => ⟨(h.2 j v t h1 h2).1.below hb, (h.2 j v t h1 h2).2⟩⟩
theorem Inn.srcc {lo hi : Nat} {e : TypeId} {us : List Value} {ts : List (List Bool)} {w : World} (h : Inn 1 e lo hi us (itsOf oneB ts) w) : Srcc w us ts := by
  refine ⟨by rw [h.len]; simp [itsOf], fun j v t h1 h2 => ?_⟩
  have own := h.own j v _ h1 (itsOf_at oneB h2)
  dsimp only at own
  refine ⟨by rw [← rows_oneB]; exact Src.of_own own, ?_⟩
  rcases own.2 with ⟨rfl, h0⟩ | ⟨g, cap, cur, rfl, _, _, h3, _⟩
  · exact ⟨none, 0, by rw [h0], by rw [h0]; exact Nat.le_refl _⟩
  · exact ⟨_, cap, rfl, h3⟩

theorem l21End_nil (w : World) : Calls Try.prog 89 #[.slice none 0 0, .int .i64 0] w fun e w' => e = .returned (.tuple #[.int .i64 0, .bool false]) ∧ w = w' := by
  go_enter Try.func89, Try.ntmps89
  go_wp2
  go_loop [1, 6] (fun kk nd => kk = .int .i64 0 ∧ nd = .int .i64 1) (fun _ _ => 0)
  case atStart => exact ⟨rfl, rfl⟩
  case round =>
    obtain ⟨rfl, rfl⟩ := hrel
    go_wp2
    go_ret2
    exact ⟨rfl, rfl⟩
theorem l21Is_src (v0 : Value) (t : List Bool) (r : Bool) (hr : isTreeB t = r) (w : World) (h : Src 1 w v0 t.length (t.map .bool)) (hn : t.length ≤ 4194304) :
    Calls Try.prog 54 #[v0] w fun e w' => e = .returned (.bool r) ∧ w = w' := by
  rcases h.2 with ⟨rfl, h0⟩ | ⟨b, off, c, rfl, hs⟩
  · have ht : t = [] := List.eq_nil_of_length_eq_zero h0
    have HF : Hid (r = false) := by unfold Hid; rw [← hr, ht]; rfl
    have HW : Hid (∀ W : World, Calls Try.prog 87 #[.slice none 0 0] W fun e w' => e = .returned (.bool false) ∧ W = w') := by
      intro W
      go_enter Try.func87, Try.ntmps87
      go_wp2_with fail
      refine (l21End_nil _).mono ?_
      rintro e w' ⟨rfl, rfl⟩
      go_wp2_with fail
      go_ret
      exact ⟨rfl, rfl⟩
    clear h0 ht hr h hn
    go_enter Try.func54, Try.ntmps54
    go_wp2_with fail
    refine (HW.out _).mono ?_
    rintro e w' ⟨rfl, rfl⟩
    go_wp2_with fail
    go_ret
    exact ⟨ret_bool HF.out.symm, rfl⟩
  · exact l21Is_is b off t.length c t r hr w hs rfl hn

set_option maxRecDepth 100000 in
set_option maxHeartbeats 1000000 in
theorem l22Store_is (b off n c : Nat) (vs : List Value) (st : List (List Bool)) (r : Bool) (hr : storeOk st = r) (w : World) (hs : Sl w b off vs) (hv : Srcc w vs st) (hl : st.length = n) (hn : n ≤ 1048576) (hb : ∀ t ∈ st, t.length ≤ 4194304) :
    Calls Try.prog 28 #[.slice (some ⟨b, off, none⟩) n c] w fun e w' => e = .returned (.bool r) ∧ w = w' := by
  by_cases h6 : n = 6
  rotate_left
  · have HF : Hid (r = false) := by unfold Hid; rw [← hr, storeOk, decide_eq_false (by omega), Bool.false_and]
    have hne : ((n : Int) != 6) = true := by simp; omega
    clear hr h6
    go_enter Try.func28, Try.ntmps28
    go_wp2_with fail
    go_ret
    exact ⟨ret_bool HF.out.symm, rfl⟩
  subst h6
  have HR : Hid (r = st.all isTreeB) := by unfold Hid; rw [← hr, storeOk, decide_eq_true hl, Bool.true_and]
  have HL := Lib.hid hl
  have HBD := Lib.hid hb
  clear hr hl hb
  go_enter Try.func28, Try.ntmps28
  go_wp2_with fail
  go_loop [3] (fun i => ∃ k : Nat, k ≤ 6 ∧ i = .int .i64 k ∧ Hid (∀ j t, j < k → st[j]? = some t → isTreeB t = true)) (fun i => 6 - (intOf i).toNat)
  case atStart => exact ⟨0, Nat.zero_le _, rfl, by intro j t hj; omega⟩
  case round =>
    obtain ⟨k, hk, rfl, HRR⟩ := hrel
    by_cases hlt : k < 6
    · obtain ⟨t, ht⟩ : ∃ t, st[k]? = some t := ⟨_, List.getElem?_eq_getElem (by have := HL.out; omega)⟩
      obtain ⟨v, hv1⟩ : ∃ v, vs[k]? = some v := ⟨_, List.getElem?_eq_getElem (by have := hv.1; have := HL.out; omega)⟩
      have hca := hs.at hv1
      have hsrc := Lib.hid (hv.2 k v t hv1 ht).1
      have HT := Lib.hid ht
      have hlt2 := HBD.out t (List.mem_of_getElem? ht)
      clear hv1 ht
      cases hb : isTreeB t with
      | true =>
        have HB := Lib.hid hb; clear hb
        go_wp2_with fail
        refine (l21Is_src v t true HB.out _ hsrc.out hlt2).mono ?_
        rintro e w' ⟨rfl, rfl⟩
        go_wp2_with fail
        go_round
        case rel => exact ⟨k + 1, by omega, by go_num, by
          intro j t' hj ht'
          by_cases ej : j = k
          · subst ej
            have h2 := HT.out
            rw [ht'] at h2; injection h2 with h2; subst h2; exact HB.out
          · exact HRR.out j t' (by omega) ht'⟩
        case measure => simp [intOf]; omega
      | false =>
        have HB := Lib.hid hb; clear hb
        have HF : Hid (r = false) := by
          unfold Hid
          rw [HR.out, Bool.eq_false_iff]
          intro hall
          have := List.all_eq_true.1 hall t (List.mem_of_getElem? HT.out)
          rw [HB.out] at this; cases this
        go_wp2_with fail
        refine (l21Is_src v t false HB.out _ hsrc.out hlt2).mono ?_
        rintro e w' ⟨rfl, rfl⟩
        go_wp2_with fail
        go_ret
        exact ⟨ret_bool HF.out.symm, rfl⟩
    · have HF : Hid (r = true) := by
        unfold Hid
        rw [HR.out, List.all_eq_true]
        intro t ht
        obtain ⟨j, hj⟩ := List.getElem?_of_mem ht
        exact HRR.out j t (by have := HL.out; have := (List.getElem?_eq_some_iff.1 hj).1; omega) hj
      go_wp2_with fail
      go_ret
      exact ⟨ret_bool HF.out.symm, rfl⟩

/-- A value that reads as the nodes of a tree, in a block that is not the stack's. -/
def RdT1 (lo : Nat) (w : World) (u : Value) (t : T) : Prop :=
  ∃ b off c, u = .slice (some ⟨b, off, none⟩) t.nodes c ∧ t.nodes ≤ c ∧ Sl w b off (t.enc.map .bool) ∧ (b < lo ∨ ∃ cs fr, w.heap[b]? = some (.cells cs 4 fr))
theorem RdT1.below {lo : Nat} {w w' : World} {u : Value} {t : T} (h : RdT1 lo w u t) (hb : Below w.heap.size w w') : RdT1 lo w' u t := by
  obtain ⟨b, off, c, e, hc, hs, ho⟩ := h
  refine ⟨b, off, c, e, hc, hs.below' hb, ?_⟩
  rcases ho with ho | ⟨cs, fr, ho⟩
  · exact .inl ho
  · exact .inr ⟨cs, fr, (hb.block b hs.1).trans ho⟩
theorem RdT1.of_own {lo base : Nat} {w : World} {u : Value} {n : Nat} {t : T} (h : w.ownsRow base 4 1 u n (t.enc.map .bool)) (hn : n = t.nodes) : RdT1 lo w u t := by
  subst hn
  have hp := t.nodes_pos
  rcases h.2 with ⟨_, h0⟩ | ⟨g, cap, cur, rfl, h1, hg, h3, _⟩
  · omega
  · exact ⟨g, 0, cap, rfl, h3, sl_of_own h, .inr ⟨cur, (0, 0), hg⟩⟩
theorem RdT1.grown {lo : Nat} {w w' : World} {g n c : Nat} {us : List Value} {u : Value} {t : T} (h : RdT1 lo w u t) (own : w.ownsRow lo 26 1 (.slice (some ⟨g, 0, none⟩) n c) n us) (hg : w.grownBy w' (some g)) : RdT1 lo w' u t := by
  obtain ⟨b, off, c, e, hc, hs, ho⟩ := h
  have hne : b ≠ g := by
    rintro rfl
    rcases ho with ho | ⟨cs, fr, ho⟩
    · have := (own.lt b rfl).1; omega
    · exact own_ne_block own ho (by decide) rfl
  refine ⟨b, off, c, e, hc, hs.grown hg hne, ?_⟩
  rcases ho with ho | ⟨cs, fr, ho⟩
  · exact .inl ho
  · exact .inr ⟨cs, fr, grown_keep hg ho (fun e => hne (by injection e))⟩
/-- The values of a stack, the top first. -/
def RdTs (lo : Nat) (w : World) : List Value → List T → Prop
  | [], [] => True
  | u :: us, t :: ts => RdT1 lo w u t ∧ RdTs lo w us ts
  | _, _ => False
theorem RdTs.map {lo : Nat} {w w' : World} (hh : ∀ u t, RdT1 lo w u t → RdT1 lo w' u t) : ∀ {us : List Value} {ts : List T}, RdTs lo w us ts → RdTs lo w' us ts
  | [], [], _ => trivial
  | _ :: _, _ :: _, h => ⟨hh _ _ h.1, RdTs.map hh h.2⟩
theorem RdTs.len {lo : Nat} {w : World} : ∀ {us : List Value} {ts : List T}, RdTs lo w us ts → us.length = ts.length
  | [], [], _ => rfl
  | _ :: us, _ :: ts, h => by rw [List.length_cons, List.length_cons, RdTs.len h.2]
theorem RdTs.cons {lo : Nat} {w : World} {us : List Value} {t : T} {ts : List T} (h : RdTs lo w us (t :: ts)) : ∃ u us', us = u :: us' ∧ RdT1 lo w u t ∧ RdTs lo w us' ts := by
  cases us with
  | nil => exact absurd h (by simp [RdTs])
  | cons u us' => exact ⟨u, us', rfl, h.1, h.2⟩

theorem cmp_same (a b : T) : (cmpB a.enc b.enc == 0) = T.same a b := by
  have hz : ∀ xs ys : List Bool, xs.length = ys.length → (cmpGo xs ys = 0 ↔ xs = ys) := by
    intro xs
    induction xs with
    | nil => intro ys h; cases ys with
      | nil => simp [cmpGo]
      | cons y ys => simp at h
    | cons x xs ih => intro ys h; cases ys with
      | nil => simp at h
      | cons y ys =>
        have := ih ys (by simpa using h)
        unfold cmpGo
        cases x <;> cases y <;> simp [this]
  unfold cmpB T.same
  by_cases h : a.enc.length = b.enc.length
  · rw [if_neg (by omega), if_neg (by omega), Bool.eq_iff_iff, beq_iff_eq, decide_eq_true_eq]
    exact hz _ _ h
  · have hne : a.enc ≠ b.enc := fun e => h (by rw [e])
    rw [decide_eq_false hne]
    rcases Nat.lt_or_ge a.enc.length b.enc.length with h1 | h1
    · rw [if_pos h1]; rfl
    · rw [if_neg (by omega), if_pos (by omega)]; rfl

/-- What l22Eval gives: the value's nodes in a row of its own, or false. -/
def EvO (o : Option (List T)) (w : World) : Ending → World → Prop := fun e w' =>
  Below w.heap.size w w' ∧ ((∃ t v, o = some [t] ∧ e = .returned (.tuple #[v, .bool true]) ∧ w'.ownsRow w.heap.size 4 1 v t.nodes (t.enc.map .bool)) ∨ (o = none ∧ e = .returned (.tuple #[.slice none 0 0, .bool false])))
theorem EvO.no {o : Option (List T)} {w w' : World} (ho : o = none) (hb : Below w.heap.size w w') : EvO o w (.returned (.tuple #[.slice none 0 0, .bool false])) w' := ⟨hb, .inr ⟨ho, rfl⟩⟩
theorem EvO.yes {o : Option (List T)} {w w' : World} {t : T} {v : Value} (ho : o = some [t]) (own : w'.ownsRow w.heap.size 4 1 v t.nodes (t.enc.map .bool)) (hb : Below w.heap.size w w') : EvO o w (.returned (.tuple #[v, .bool true])) w' := ⟨hb, .inl ⟨t, v, ho, rfl, own⟩⟩

set_option maxRecDepth 100000 in
set_option maxHeartbeats 8000000 in
theorem l22Eval_any (A : Option Addr) (n c b0 off m c2 : Nat) (xs : List R2) (x : E) (vs : List Value) (σ : List T) (w : World) (hx : xs = x.enc) (hok : x.ok) (hn : n ≤ 40) (ha : Args 2 w A n (rows R2.vs xs)) (hm : σ.length = m) (hm6 : m = 6)
    (hs : Sl w b0 off vs) (hv : Srcc w vs (σ.map T.enc)) (hσ : ∀ t ∈ σ, t.nodes ≤ 2000) :
    Calls Try.prog 29 #[.slice A n c, .slice (some ⟨b0, off, none⟩) m c2] w (EvO (evS σ xs) w) := by
  have HL : Hid (xs.length = n) := by have := ha.1; rw [rows_len R2.vs_len] at this; unfold Hid; omega
  have HM : Hid (σ.length = 6) := hm.trans hm6
  have HM6 := Lib.hid hm6
  have HSN := Lib.hid hσ
  have HX := Lib.hid hx
  have HSUF : Hid (∀ i, ∃ es', xs.drop i = eEncs es' ∧ ∀ e ∈ es', e.ok) := by
    intro i
    have := suffix_encs i [x] (by intro e h; rw [List.mem_singleton] at h; subst h; exact hok)
    rw [show eEncs [x] = xs from by rw [hx]; simp [eEncs]] at this
    exact this
  have hown0 : Hid ((w.alloc (.cells #[] 26)).ownsRow w.heap.size 26 1 (.slice (some ⟨w.heap.size, 0, none⟩) 0 0) 0 []) := World.ownsRow_made _ #[] 0 (by simp) (by simp [maxLen]) rfl
  have hb0 := Lib.hid (laid_below w (.cells #[] 26))
  clear hm hσ hx hok hm6
  go_enter Try.func29, Try.ntmps29
  go_wp2_with fail
  go_loopw [6, 7] (fun v i wr => ∃ (k : Nat) (us : List Value) (ts : List T) (g cap q : Nat), i = .int .i64 ((k : Int) - 1) ∧ v = .slice (some ⟨g, 0, none⟩) q cap ∧ k ≤ n ∧ ts.length = q ∧ q + k ≤ n ∧ Hid (evS σ (xs.drop k) = some ts) ∧ Hid (RdTs w.heap.size wr us ts) ∧ Hid (wr.ownsRow w.heap.size 26 1 (.slice (some ⟨g, 0, none⟩) q cap) q us.reverse) ∧ Hid (Below w.heap.size w wr)) (fun _ i _ => (intOf i + 1).toNat)
  case atStart => exact ⟨n, [], [], _, 0, 0, rfl, rfl, Nat.le_refl _, rfl, by omega, by unfold Hid; rw [List.drop_of_length_le (by have := HL.out; omega)]; rfl, trivial, hown0, hb0⟩
  case round =>
    obtain ⟨k, us, ts, g, cap, Q, rfl, rfl, hk, hts, hq, HEV0, HRS0, HO, HB⟩ := hrel
    clear hown0 hb0
    rcases Nat.eq_zero_or_pos k with h0 | h0
    · subst h0
      have hval : evS σ xs = some ts := HEV0.out
      obtain ⟨t, rfl⟩ : ∃ t, ts = [t] := by
        have h1 := evS_enc σ x []
        rw [List.append_nil, ← HX.out, hval] at h1
        cases hxv : x.val σ with
        | none => rw [hxv] at h1; cases h1
        | some t => rw [hxv] at h1; exact ⟨t, by injection h1⟩
      obtain rfl : Q = 1 := hts.symm
      obtain ⟨u, us', rfl, hu, _⟩ := HRS0.out.cons
      obtain rfl : us' = [] := by have := HRS0.out.len; simpa using this
      have hca : wr.cell? ⟨g, 0, none⟩ = some u := by rw [HO.out.cellAt 0 (by simp)]; rfl
      obtain ⟨b9, o9, c9, rfl, hc9, hs9, _⟩ := hu
      obtain ⟨n9, hn9⟩ : ∃ n9, t.nodes = n9 := ⟨_, rfl⟩
      rw [hn9] at hca hc9
      have HN9 := Lib.hid hn9
      have hown1 : (wr.alloc (.cells #[] 4)).ownsRow wr.heap.size 4 1 (.slice (some ⟨wr.heap.size, 0, none⟩) 0 0) 0 [] := World.ownsRow_made _ #[] 0 (Nat.le_refl _) (by simp [maxLen]) rfl
      have hb1 := laid_below wr (.cells #[] 4)
      have hsrc : Src 1 (wr.alloc (.cells #[] 4)) (.slice (some ⟨b9, o9, none⟩) n9 c9) n9 (t.enc.map .bool) := Src.of_sl (hs9.below' hb1) (by rw [List.length_map, T.length_enc, hn9]; omega)
      have hn9b : n9 ≤ 2000 := by
        have h1 := evS_enc σ x []
        rw [List.append_nil, ← HX.out, hval] at h1
        cases hxv : x.val σ with
        | none => rw [hxv] at h1; cases h1
        | some t' =>
          rw [hxv] at h1
          have h2 : t = t' := by injection h1 with h1; injection h1
          rw [← hn9, h2]; exact E.val_nodes HSN.out x t' hxv
      have HVAL := Lib.hid hval
      have HONE := Lib.hid (one_bools t.enc)
      have hca2 : (wr.alloc (.cells #[] 4)).cell? ⟨g, 0, none⟩ = some (.slice (some ⟨b9, o9, none⟩) n9 c9) := (hb1.cell (p := ⟨g, 0, none⟩) (HO.out.lt g rfl).2).trans hca
      clear hval hs9 hn9 hca
      go_wp2_with (at_builtin; refine wpList_appx rfl _ _ _ rfl Try.underlying26 infoBoolS rfl (by omega) wr.heap.size hown1 hb1.size rfl hsrc rfl HONE.out (by unfold maxLen; omega) (by omega) ?_; intro v1 w1 hown2 hg1 hnil1; have hb2 := grown_below hb1 hown1 (Nat.le_refl _) hg1; have FIN := Lib.hid (EvO.yes (v := v1) HVAL.out (own_base (show w1.ownsRow wr.heap.size 4 1 v1 t.nodes (t.enc.map .bool) by rw [HN9.out]; simpa using hown2) HB.out.size) (below_step HB.out hb2)); clear hown2 hg1 hnil1 hown1 hb1 hsrc)
      go_ret2
      exact FIN.out
    obtain ⟨j, rfl⟩ : ∃ j, k = j + 1 := ⟨k - 1, by omega⟩
    have e1 : (((j + 1 : Nat) : Int) - 1) = (j : Int) := by omega
    rw [e1]
    clear e1 h0
    have hjn : j < n := by omega
    obtain ⟨b, o, rfl, hsl⟩ := ha.sl hjn
    obtain ⟨es', he', hok'⟩ := HSUF.out j
    have hcap : Q ≤ cap := by
      rcases HO.out.2 with ⟨h', _⟩ | ⟨g', cap', cur, hv', _, _, hnc, _⟩
      · cases h'
      · injection hv' with _ _ h3
        omega
    -- the laid list of one false
    obtain ⟨w1, HW1, b1, x1⟩ := al1 wr (.cells #[.bool false] 4)
    have HB1 := Lib.hid (below_step HB.out b1)
    have HRS1 := Lib.hid (RdTs.map (fun u t h => h.below b1) HRS0.out)
    have hown1 := own_below' HO.out b1
    have hnil : RdT1 w.heap.size w1 (.slice (some ⟨wr.heap.size, 0, none⟩) 1 1) T.nil := ⟨wr.heap.size, 0, 1, rfl, Nat.le_refl _, ⟨heap_lt x1, fun i u hu => by rw [cell_of_heap x1]; simpa [T.enc] using hu⟩, .inr ⟨_, _, x1⟩⟩
    have HSL := Lib.hid (hsl.below' (below_step HB.out b1))
    have HS0 := Lib.hid (hs.below' (below_step HB.out b1))
    have HV0 := Lib.hid (hv.below (below_step HB.out b1))
    clear b1 x1 hsl
    cases es' with
    | nil =>
      exfalso
      have := congrArg List.length he'
      rw [List.length_drop] at this
      have h2 := HL.out
      have h3 : (eEncs []).length = 0 := rfl
      omega
    | cons hd rest =>
      cases hd with
      | nil  =>
        obtain ⟨hx1, hd1, _⟩ := drop_head (show xs.drop j = ⟨0, 0⟩ :: eEncs (rest) from by rw [he']; simp [eEncs, E.enc])
        obtain ⟨p0, p1⟩ := HSL.out.rec2 hx1
        dsimp only at p0 p1
        have p0r : (wr.alloc (.cells #[.bool false] 4)).cell? ⟨b, o + j * 2, none⟩ = some (.int .i64 0) := by rw [← HW1.out]; exact p0
        have hev0 := HEV0.out
        rw [hd1, evS_encs] at hev0
        have hxd : xs.drop j = ⟨0, 0⟩ :: xs.drop (j + 1) := by rw [he', hd1]; simp [eEncs, E.enc]
        have HEVP : Hid (evS σ (xs.drop j) = (some ts).bind (pushS σ ⟨0, 0⟩)) := by unfold Hid; rw [hxd, evS, HEV0.out]
        have hmany : ((eFol ⟨0, 0⟩ : Nat) : Int) = 0 := by first | rfl | (simp [eFol])
        clear hd1 hxd he'
        have hcut := hown1
        have hrd := hnil
        have HRS := HRS1
        have HB := HB1
        have HQ := Lib.hid hts
        have HEV : Hid (evS σ (xs.drop j) = if 2000 < 1 then none else some (T.nil :: ts)) := by unfold Hid; rw [HEVP.out, Option.bind_some, pushS_nil, if_neg (by omega)]
        clear hok' hx1 hev0 hown1 hnil HRS1
        go_wp2_with fail
        rw [← HW1.out]
        refine (l22Many_any ⟨0, 0⟩ _).mono ?_
        rintro e w' ⟨rfl, rfl⟩
        rw [hmany]
        clear hmany p0r
        have HYS := Lib.hid (HEV.out.trans (if_neg (by decide)))
        have hbz := HB.out.size
        go_wp2_with (at_builtin; refine wpList_appg rfl _ _ _ rfl Try.underlying23 infoBoolSS' rfl (by omega) w.heap.size w1 hcut hbz rfl 1 #[.slice (some ⟨wr.heap.size, 0, none⟩) 1 1] rfl (laid_below _ _) (heap_alloc_new _ _) rfl (by simp [Value.oneCell']) (by omega) (by unfold maxLen; omega) (by omega) ?_; intro g2 cap2 w2 hown2 hg2; have HRS2 := Lib.hid (RdTs.map (fun u t h => h.grown hcut hg2) (show RdTs w.heap.size w1 (.slice (some ⟨wr.heap.size, 0, none⟩) 1 1 :: us) (T.nil :: ts) from ⟨hrd, HRS.out⟩)); have HB2 := Lib.hid (grown_below HB.out hcut (Nat.le_refl _) hg2); have HO2 := Lib.hid hown2; clear hown2 hg2 hcut hrd)
        go_roundw
        case rel =>
          refine ⟨j, .slice (some ⟨wr.heap.size, 0, none⟩) 1 1 :: us, T.nil :: ts, g2, cap2, Q + 1, rfl, rfl, by omega, by rw [List.length_cons]; have := HQ.out; omega, by omega, HYS, HRS2, ?_, HB2⟩
          unfold Hid
          have := HO2.out
          rw [List.reverse_cons]
          exact this
        case measure => simp [intOf]
      | var v =>
        obtain ⟨hx1, hd1, _⟩ := drop_head (show xs.drop j = ⟨1, (v : Int)⟩ :: eEncs (rest) from by rw [he']; simp [eEncs, E.enc])
        obtain ⟨p0, p1⟩ := HSL.out.rec2 hx1
        dsimp only at p0 p1
        have p0r : (wr.alloc (.cells #[.bool false] 4)).cell? ⟨b, o + j * 2, none⟩ = some (.int .i64 1) := by rw [← HW1.out]; exact p0
        have hev0 := HEV0.out
        rw [hd1, evS_encs] at hev0
        have hxd : xs.drop j = ⟨1, (v : Int)⟩ :: xs.drop (j + 1) := by rw [he', hd1]; simp [eEncs, E.enc]
        have HEVP : Hid (evS σ (xs.drop j) = (some ts).bind (pushS σ ⟨1, (v : Int)⟩)) := by unfold Hid; rw [hxd, evS, HEV0.out]
        have hmany : ((eFol ⟨1, (v : Int)⟩ : Nat) : Int) = 0 := by first | rfl | (simp [eFol])
        clear hd1 hxd he'
        have hv5 : v ≤ 5 := hok' (.var v) (by simp)
        obtain ⟨t9, ht9⟩ : ∃ t, σ[v]? = some t := ⟨_, List.getElem?_eq_getElem (by have := HM.out; omega)⟩
        obtain ⟨v9, hv9⟩ : ∃ u, vs[v]? = some u := ⟨_, List.getElem?_eq_getElem (by have := HV0.out.1; rw [List.length_map] at this; have := HM.out; omega)⟩
        have hca := HS0.out.at hv9
        obtain ⟨hsrc9, A9, c9, hve, hc9⟩ := HV0.out.2 v v9 t9.enc hv9 (by rw [List.getElem?_map, ht9]; rfl)
        have hgd : σ.getD v T.nil = t9 := by rw [List.getD_eq_getElem?_getD, ht9]; rfl
        have hp9 := t9.nodes_pos
        rw [T.length_enc] at hve hc9 hsrc9
        obtain ⟨b9, o9, rfl, hs9⟩ : ∃ b9 o9, A9 = some ⟨b9, o9, none⟩ ∧ Sl w1 b9 o9 (t9.enc.map .bool) := by
          rcases hsrc9.2 with ⟨_, h0⟩ | ⟨b9, o9, c', h1, h2⟩
          · omega
          · rw [hve] at h1; injection h1 with h1; exact ⟨b9, o9, h1, h2⟩
        have hlo : b9 < w.heap.size := by
          obtain ⟨hsrcw, _⟩ := hv.2 v v9 t9.enc hv9 (by rw [List.getElem?_map, ht9]; rfl)
          rcases hsrcw.2 with ⟨h1, _⟩ | ⟨b', o', c', h1, h2⟩
          · rw [hve] at h1; cases h1
          · rw [hve] at h1; injection h1 with h1; injection h1 with h1; injection h1 with h1; rw [h1]; exact h2.1
        subst hve
        obtain ⟨n9, hn9⟩ : ∃ n9, t9.nodes = n9 := ⟨_, rfl⟩
        have hn9b : n9 ≤ 2000 := by rw [← hn9]; exact HSN.out t9 (List.mem_of_getElem? ht9)
        have hrd : RdT1 w.heap.size w1 (.slice (some ⟨b9, o9, none⟩) n9 c9) t9 := ⟨b9, o9, c9, by rw [hn9], hc9, hs9, .inl hlo⟩
        rw [hn9] at hca
        have hvI : ((v : Nat) : Int) < (m : Int) := by have := HM6.out; omega
        have hcut := hown1
        have HRS := HRS1
        have HB := HB1
        have HQ := Lib.hid hts
        have HEV : Hid (evS σ (xs.drop j) = if 2000 < n9 then none else some (t9 :: ts)) := by unfold Hid; rw [HEVP.out, Option.bind_some, pushS_var, hgd, if_neg (by omega)]
        have HX1 := Lib.hid hx1
        clear hok' hx1 hev0 hown1 hnil HRS1 ht9 hv9 hsrc9 hc9 hgd hp9 hs9 hlo hn9 hn9b
        go_wp2_with fail
        rw [← HW1.out]
        refine (l22Many_any ⟨1, (v : Int)⟩ _).mono ?_
        rintro e w' ⟨rfl, rfl⟩
        rw [hmany]
        clear hmany p0r
        by_cases hbig : 2000 < n9
        · have hbI : (2000 : Int) < (n9 : Int) := by omega
          have HNO := Lib.hid (evS_none (HEV.out.trans (if_pos hbig)))
          have FIN := Lib.hid (EvO.no (w := w) HNO.out HB.out)
          clear hbig
          go_wp2_with fail
          go_ret2
          exact FIN.out
        · have hbI : ¬ (2000 : Int) < (n9 : Int) := by omega
          have HYS := Lib.hid (HEV.out.trans (if_neg hbig))
          have hbz := HB.out.size
          clear hbig
          go_wp2_with (at_builtin; refine wpList_appg rfl _ _ _ rfl Try.underlying23 infoBoolSS' rfl (by omega) w.heap.size w1 hcut hbz rfl 1 #[.slice (some ⟨b9, o9, none⟩) n9 c9] rfl (laid_below _ _) (heap_alloc_new _ _) rfl (by simp [Value.oneCell']) (by omega) (by unfold maxLen; omega) (by omega) ?_; intro g2 cap2 w2 hown2 hg2; have HRS2 := Lib.hid (RdTs.map (fun u t h => h.grown hcut hg2) (show RdTs w.heap.size w1 (.slice (some ⟨b9, o9, none⟩) n9 c9 :: us) (t9 :: ts) from ⟨hrd, HRS.out⟩)); have HB2 := Lib.hid (grown_below HB.out hcut (Nat.le_refl _) hg2); have HO2 := Lib.hid hown2; clear hown2 hg2 hcut hrd)
          go_roundw
          case rel =>
            refine ⟨j, .slice (some ⟨b9, o9, none⟩) n9 c9 :: us, t9 :: ts, g2, cap2, Q + 1, rfl, rfl, by omega, by rw [List.length_cons]; have := HQ.out; omega, by omega, HYS, HRS2, ?_, HB2⟩
            unfold Hid
            have := HO2.out
            rw [List.reverse_cons]
            exact this
          case measure => simp [intOf]
      | cons a e2 =>
        obtain ⟨hx1, hd1, _⟩ := drop_head (show xs.drop j = ⟨2, 0⟩ :: eEncs (a :: e2 :: rest) from by rw [he']; simp [eEncs, E.enc])
        obtain ⟨p0, p1⟩ := HSL.out.rec2 hx1
        dsimp only at p0 p1
        have p0r : (wr.alloc (.cells #[.bool false] 4)).cell? ⟨b, o + j * 2, none⟩ = some (.int .i64 2) := by rw [← HW1.out]; exact p0
        have hev0 := HEV0.out
        rw [hd1, evS_encs] at hev0
        have hxd : xs.drop j = ⟨2, 0⟩ :: xs.drop (j + 1) := by rw [he', hd1]; simp [eEncs, E.enc]
        have HEVP : Hid (evS σ (xs.drop j) = (some ts).bind (pushS σ ⟨2, 0⟩)) := by unfold Hid; rw [hxd, evS, HEV0.out]
        have hmany : ((eFol ⟨2, 0⟩ : Nat) : Int) = 2 := by first | rfl | (simp [eFol])
        clear hd1 hxd he'
        obtain ⟨x9, y9, tr, rfl⟩ : ∃ x9 y9 tr, ts = x9 :: y9 :: tr := by
          simp only [vals] at hev0
          cases h1 : a.val σ with
          | none => rw [h1] at hev0; cases hev0
          | some x9 =>
            cases h2 : e2.val σ with
            | none => rw [h1, h2] at hev0; cases hev0
            | some y9 =>
              rw [h1, h2] at hev0
              cases h3 : vals σ rest with
              | none => rw [h3] at hev0; cases hev0
              | some tr => rw [h3] at hev0; exact ⟨x9, y9, tr, by injection hev0 with h; exact h.symm⟩
        obtain ⟨ux, us1, rfl, hux, hr1⟩ := HRS1.out.cons
        obtain ⟨uy, rr, rfl, huy, hr2⟩ := hr1.cons
        have HRSR := Lib.hid hr2
        obtain ⟨q, hqe⟩ : ∃ q, tr.length = q := ⟨_, rfl⟩
        obtain rfl : Q = q + 1 + 1 := by rw [← hts, List.length_cons, List.length_cons, hqe]
        have hrl : rr.length = q := by rw [hr2.len, hqe]
        have i1 : (0 : Int) ≤ (q : Int) + 1 := by omega
        have i2 : (q : Int) + 1 < (q : Int) + 1 + 1 := by omega
        have i4 : (q : Int) < (q : Int) + 1 + 1 := by omega
        have i5 : ((q : Int) + 1).toNat = q + 1 := by omega
        have i7 : IntKind.i64.wrap (q : Int) = (q : Int) := IntWalk.i64_in _ (by omega)
        have hcx : w1.cell? ⟨g, q + 1, none⟩ = some ux := by rw [hown1.cellAt _ (by omega)]; simp [hrl]
        have hcy : w1.cell? ⟨g, q, none⟩ = some uy := by rw [hown1.cellAt _ (by omega)]; simp [hrl]
        have hcut := own_cut hown1 (m := q) (by omega)
        have ecut : ((ux :: uy :: rr).reverse).take (q * 1) = rr.reverse := by
          rw [List.reverse_cons, List.reverse_cons, List.append_assoc, List.take_append_of_le_length (by rw [List.length_reverse]; omega), List.take_of_length_le (by rw [List.length_reverse]; omega)]
        rw [ecut] at hcut
        obtain ⟨bx, ox, cx, rfl, hcx9, hsx, hbx⟩ := hux
        obtain ⟨by_, oy, cy, rfl, hcy9, hsy, hby⟩ := huy
        obtain ⟨nx, hnx⟩ : ∃ z, x9.nodes = z := ⟨_, rfl⟩
        obtain ⟨ny, hny⟩ : ∃ z, y9.nodes = z := ⟨_, rfl⟩
        have hbig2 : x9.nodes ≤ 2000 ∧ y9.nodes ≤ 2000 := by
          simp only [vals] at hev0
          cases h1 : a.val σ with
          | none => rw [h1] at hev0; cases hev0
          | some x8 =>
            cases h2 : e2.val σ with
            | none => rw [h1, h2] at hev0; cases hev0
            | some y8 =>
              rw [h1, h2] at hev0
              cases h3 : vals σ rest with
              | none => rw [h3] at hev0; cases hev0
              | some tr8 =>
                rw [h3] at hev0
                simp only [Option.bind_some, Option.map_some, Option.some.injEq, List.cons.injEq] at hev0
                obtain ⟨rfl, rfl, _⟩ := hev0
                exact ⟨E.val_nodes HSN.out a _ h1, E.val_nodes HSN.out e2 _ h2⟩
        obtain ⟨hnx2, hny2⟩ := hbig2
        rw [hnx] at hcx hcx9 hnx2
        rw [hny] at hcy hcy9 hny2
        have HNX := Lib.hid hnx; have HNY := Lib.hid hny
        have HSX := Lib.hid hsx; have HSY := Lib.hid hsy
        have HQ := Lib.hid hqe
        have hgs := HB1.out.size
        have hbg := hcut.lt g rfl
        have HEV1 : Hid (evS σ (xs.drop j) = if 2000 < 1 + nx + ny then none else some (T.pair x9 y9 :: tr)) := by
          unfold Hid
          rw [HEVP.out, Option.bind_some, pushS_cons]
          unfold consT
          rw [HNX.out, HNY.out]
          split <;> rfl
        clear hok' hx1 hev0 hown1 HRS1 HRS0 hr1 hr2 hrl ecut hcx9 hcy9 hsx hsy hbx hby hnx hny hqe
        clear hnil
        go_wp2_with fail
        rw [← HW1.out]
        refine (l22Many_any ⟨2, 0⟩ _).mono ?_
        rintro e w' ⟨rfl, rfl⟩
        rw [hmany]
        clear hmany p0r
        go_wp2_with fail
        refine wp_region_still_tail 9 (by kernel_rfl) (by kernel_rfl) ?_
        simp only [List.take_succ_cons, List.take_zero, List.drop_succ_cons, List.drop_zero]
        iterate 9 still_step
        refine wpStill_nil ?_
        change wpList _ _ _ _ _ w1.drew
        have HSX2 := Lib.hid (HSX.out.below' (Below.refl _ _).drew); have HSY2 := Lib.hid (HSY.out.below' (Below.refl _ _).drew)
        have hcut2 : w1.drew.ownsRow w.heap.size 26 1 (.slice (some ⟨g, 0, none⟩) q cap) q rr.reverse := own_below' hcut (Below.refl _ _).drew
        have HRSD := Lib.hid (RdTs.map (fun u t h => h.below (Below.refl _ _).drew) HRSR.out)
        have HBD := Lib.hid (HB1.out.drew)
        clear hcut hcx hcy HSX HSY HRSR HB1 p0 p1
        generalize w1.drew = wd at HSX2 HSY2 hcut2 HRSD HBD ⊢
        go_wp2_with fail
        refine (l21Pair_any bx ox nx cx x9.enc by_ oy ny cy y9.enc _ HSX2.out (by rw [T.length_enc]; exact HNX.out) (by omega) HSY2.out (by rw [T.length_enc]; exact HNY.out) (by omega)).mono ?_
        rintro e wc ⟨v9, rfl, own9, bb9⟩
        have hrd : RdT1 w.heap.size wc v9 (T.pair x9 y9) := RdT1.of_own (t := T.pair x9 y9) (n := 1 + nx + ny) own9 (by show _ = 1 + x9.nodes + y9.nodes; rw [HNX.out, HNY.out])
        have hcut := own_below' hcut2 bb9
        have HRS := Lib.hid (RdTs.map (fun u t h => h.below bb9) HRSD.out)
        have HB := Lib.hid (below_step HBD.out bb9)
        obtain ⟨n9, hn9⟩ : ∃ z, 1 + nx + ny = z := ⟨_, rfl⟩
        have HEV := HEV1
        rw [hn9] at HEV
        obtain ⟨b9, o9, c9, rfl, _, _, _⟩ := id hrd
        have hn9b : n9 ≤ 4001 := by omega
        have en9 : (T.pair x9 y9).nodes = n9 := by rw [← hn9, ← HNX.out, ← HNY.out]; rfl
        rw [en9] at hrd ⊢
        clear own9 bb9 hcut2 HEV1 hn9 en9
        by_cases hbig : 2000 < n9
        · have hbI : (2000 : Int) < (n9 : Int) := by omega
          have HNO := Lib.hid (evS_none (HEV.out.trans (if_pos hbig)))
          have FIN := Lib.hid (EvO.no (w := w) HNO.out HB.out)
          clear hbig
          go_wp2_with fail
          go_ret2
          exact FIN.out
        · have hbI : ¬ (2000 : Int) < (n9 : Int) := by omega
          have HYS := Lib.hid (HEV.out.trans (if_neg hbig))
          have hbz := HB.out.size
          clear hbig
          go_wp2_with (at_builtin; refine wpList_appg rfl _ _ _ rfl Try.underlying23 infoBoolSS' rfl (by omega) w.heap.size wc hcut hbz rfl 1 #[.slice (some ⟨b9, o9, none⟩) n9 c9] rfl (laid_below _ _) (heap_alloc_new _ _) rfl (by simp [Value.oneCell']) (by omega) (by unfold maxLen; omega) (by omega) ?_; intro g2 cap2 w2 hown2 hg2; have HRS2 := Lib.hid (RdTs.map (fun u t h => h.grown hcut hg2) (show RdTs w.heap.size wc (.slice (some ⟨b9, o9, none⟩) n9 c9 :: rr) ((T.pair x9 y9) :: tr) from ⟨hrd, HRS.out⟩)); have HB2 := Lib.hid (grown_below HB.out hcut (Nat.le_refl _) hg2); have HO2 := Lib.hid hown2; clear hown2 hg2 hcut hrd)
          go_roundw
          case rel =>
            refine ⟨j, .slice (some ⟨b9, o9, none⟩) n9 c9 :: rr, (T.pair x9 y9) :: tr, g2, cap2, q + 1, rfl, rfl, by omega, by rw [List.length_cons]; have := HQ.out; omega, by omega, HYS, HRS2, ?_, HB2⟩
            unfold Hid
            have := HO2.out
            rw [List.reverse_cons]
            exact this
          case measure => simp [intOf]
      | head a =>
        obtain ⟨hx1, hd1, _⟩ := drop_head (show xs.drop j = ⟨3, 0⟩ :: eEncs (a :: rest) from by rw [he']; simp [eEncs, E.enc])
        obtain ⟨p0, p1⟩ := HSL.out.rec2 hx1
        dsimp only at p0 p1
        have p0r : (wr.alloc (.cells #[.bool false] 4)).cell? ⟨b, o + j * 2, none⟩ = some (.int .i64 3) := by rw [← HW1.out]; exact p0
        have hev0 := HEV0.out
        rw [hd1, evS_encs] at hev0
        have hxd : xs.drop j = ⟨3, 0⟩ :: xs.drop (j + 1) := by rw [he', hd1]; simp [eEncs, E.enc]
        have HEVP : Hid (evS σ (xs.drop j) = (some ts).bind (pushS σ ⟨3, 0⟩)) := by unfold Hid; rw [hxd, evS, HEV0.out]
        have hmany : ((eFol ⟨3, 0⟩ : Nat) : Int) = 1 := by first | rfl | (simp [eFol])
        clear hd1 hxd he'
        obtain ⟨x9, tr, rfl⟩ : ∃ x9 tr, ts = x9 :: tr := by
          simp only [vals] at hev0
          cases h1 : a.val σ with
          | none => rw [h1] at hev0; cases hev0
          | some x9 =>
            rw [h1] at hev0
            cases h3 : vals σ rest with
            | none => rw [h3] at hev0; cases hev0
            | some tr => rw [h3] at hev0; exact ⟨x9, tr, by injection hev0 with h; exact h.symm⟩
        obtain ⟨ux, rr, rfl, hux, hr2⟩ := HRS1.out.cons
        have HRSR := Lib.hid hr2
        obtain ⟨q, hqe⟩ : ∃ q, tr.length = q := ⟨_, rfl⟩
        obtain rfl : Q = q + 1 := by rw [← hts, List.length_cons, hqe]
        have hrl : rr.length = q := by rw [hr2.len, hqe]
        have hcx : w1.cell? ⟨g, q, none⟩ = some ux := by rw [hown1.cellAt _ (by omega)]; simp [hrl]
        have hcut1 := own_cut hown1 (m := q) (by omega)
        have ecut : ((ux :: rr).reverse).take (q * 1) = rr.reverse := by
          rw [List.reverse_cons, List.take_append_of_le_length (by rw [List.length_reverse]; omega), List.take_of_length_le (by rw [List.length_reverse]; omega)]
        rw [ecut] at hcut1
        obtain ⟨bx, ox, cx, rfl, hcx9, hsx, hbx⟩ := hux
        obtain ⟨nx, hnx⟩ : ∃ z, x9.nodes = z := ⟨_, rfl⟩
        have hnx2 : x9.nodes ≤ 2000 := by
          simp only [vals] at hev0
          cases h1 : a.val σ with
          | none => rw [h1] at hev0; cases hev0
          | some x8 =>
            rw [h1] at hev0
            cases h3 : vals σ rest with
            | none => rw [h3] at hev0; cases hev0
            | some tr8 =>
              rw [h3] at hev0
              simp only [Option.bind_some, Option.map_some, Option.some.injEq, List.cons.injEq] at hev0
              obtain ⟨rfl, _⟩ := hev0
              exact E.val_nodes HSN.out a _ h1
        rw [hnx] at hcx hcx9 hnx2
        have HNX := Lib.hid hnx
        have HSX := Lib.hid hsx
        have HQ := Lib.hid hqe
        have HEV1 : Hid (evS σ (xs.drop j) = some (x9.hd :: tr)) := by
          unfold Hid
          rw [HEVP.out, Option.bind_some, pushS_head]
        clear hok' hx1 hev0 hown1 HRS1 HRS0 hr2 hrl ecut hsx hbx hnx hqe hnil
        go_wp2_with fail
        rw [← HW1.out]
        refine (l22Many_any ⟨3, 0⟩ _).mono ?_
        rintro e w' ⟨rfl, rfl⟩
        rw [hmany]
        clear hmany p0r
        go_wp2_with fail
        refine (l21Head_any bx ox nx cx x9 _ HSX.out HNX.out (by omega) hcx9).mono ?_
        rintro e wc ⟨v9, rfl, own9, bb9⟩
        have hrd : RdT1 w.heap.size wc v9 x9.hd := RdT1.of_own own9 rfl
        have hcut := own_below' hcut1 bb9
        have HRS := Lib.hid (RdTs.map (fun u t h => h.below bb9) HRSR.out)
        have HB := Lib.hid (below_step HB1.out bb9)
        obtain ⟨n9, hn9⟩ : ∃ z, x9.hd.nodes = z := ⟨_, rfl⟩
        have hn9b : n9 ≤ 2000 := by have := x9.hd_nodes; have := HNX.out; omega
        have HEV : Hid (evS σ (xs.drop j) = if 2000 < n9 then none else some (x9.hd :: tr)) := by unfold Hid; rw [if_neg (by omega)]; exact HEV1.out
        obtain ⟨b9, o9, c9, rfl, _, _, _⟩ := id hrd
        rw [hn9] at hrd ⊢
        obtain ⟨t9, ht9⟩ : ∃ t9, x9.hd = t9 := ⟨_, rfl⟩
        rw [ht9] at hrd HEV
        clear own9 bb9 hcut1 HEV1 hn9 ht9 hcx
        by_cases hbig : 2000 < n9
        · have hbI : (2000 : Int) < (n9 : Int) := by omega
          have HNO := Lib.hid (evS_none (HEV.out.trans (if_pos hbig)))
          have FIN := Lib.hid (EvO.no (w := w) HNO.out HB.out)
          clear hbig
          go_wp2_with fail
          go_ret2
          exact FIN.out
        · have hbI : ¬ (2000 : Int) < (n9 : Int) := by omega
          have HYS := Lib.hid (HEV.out.trans (if_neg hbig))
          have hbz := HB.out.size
          clear hbig
          go_wp2_with (at_builtin; refine wpList_appg rfl _ _ _ rfl Try.underlying23 infoBoolSS' rfl (by omega) w.heap.size wc hcut hbz rfl 1 #[.slice (some ⟨b9, o9, none⟩) n9 c9] rfl (laid_below _ _) (heap_alloc_new _ _) rfl (by simp [Value.oneCell']) (by omega) (by unfold maxLen; omega) (by omega) ?_; intro g2 cap2 w2 hown2 hg2; have HRS2 := Lib.hid (RdTs.map (fun u t h => h.grown hcut hg2) (show RdTs w.heap.size wc (.slice (some ⟨b9, o9, none⟩) n9 c9 :: rr) (t9 :: tr) from ⟨hrd, HRS.out⟩)); have HB2 := Lib.hid (grown_below HB.out hcut (Nat.le_refl _) hg2); have HO2 := Lib.hid hown2; clear hown2 hg2 hcut hrd)
          go_roundw
          case rel =>
            refine ⟨j, .slice (some ⟨b9, o9, none⟩) n9 c9 :: rr, t9 :: tr, g2, cap2, q + 1, rfl, rfl, by omega, by rw [List.length_cons]; have := HQ.out; omega, by omega, HYS, HRS2, ?_, HB2⟩
            unfold Hid
            have := HO2.out
            rw [List.reverse_cons]
            exact this
          case measure => simp [intOf]
      | tail a =>
        obtain ⟨hx1, hd1, _⟩ := drop_head (show xs.drop j = ⟨4, 0⟩ :: eEncs (a :: rest) from by rw [he']; simp [eEncs, E.enc])
        obtain ⟨p0, p1⟩ := HSL.out.rec2 hx1
        dsimp only at p0 p1
        have p0r : (wr.alloc (.cells #[.bool false] 4)).cell? ⟨b, o + j * 2, none⟩ = some (.int .i64 4) := by rw [← HW1.out]; exact p0
        have hev0 := HEV0.out
        rw [hd1, evS_encs] at hev0
        have hxd : xs.drop j = ⟨4, 0⟩ :: xs.drop (j + 1) := by rw [he', hd1]; simp [eEncs, E.enc]
        have HEVP : Hid (evS σ (xs.drop j) = (some ts).bind (pushS σ ⟨4, 0⟩)) := by unfold Hid; rw [hxd, evS, HEV0.out]
        have hmany : ((eFol ⟨4, 0⟩ : Nat) : Int) = 1 := by first | rfl | (simp [eFol])
        clear hd1 hxd he'
        obtain ⟨x9, tr, rfl⟩ : ∃ x9 tr, ts = x9 :: tr := by
          simp only [vals] at hev0
          cases h1 : a.val σ with
          | none => rw [h1] at hev0; cases hev0
          | some x9 =>
            rw [h1] at hev0
            cases h3 : vals σ rest with
            | none => rw [h3] at hev0; cases hev0
            | some tr => rw [h3] at hev0; exact ⟨x9, tr, by injection hev0 with h; exact h.symm⟩
        obtain ⟨ux, rr, rfl, hux, hr2⟩ := HRS1.out.cons
        have HRSR := Lib.hid hr2
        obtain ⟨q, hqe⟩ : ∃ q, tr.length = q := ⟨_, rfl⟩
        obtain rfl : Q = q + 1 := by rw [← hts, List.length_cons, hqe]
        have hrl : rr.length = q := by rw [hr2.len, hqe]
        have hcx : w1.cell? ⟨g, q, none⟩ = some ux := by rw [hown1.cellAt _ (by omega)]; simp [hrl]
        have hcut1 := own_cut hown1 (m := q) (by omega)
        have ecut : ((ux :: rr).reverse).take (q * 1) = rr.reverse := by
          rw [List.reverse_cons, List.take_append_of_le_length (by rw [List.length_reverse]; omega), List.take_of_length_le (by rw [List.length_reverse]; omega)]
        rw [ecut] at hcut1
        obtain ⟨bx, ox, cx, rfl, hcx9, hsx, hbx⟩ := hux
        obtain ⟨nx, hnx⟩ : ∃ z, x9.nodes = z := ⟨_, rfl⟩
        have hnx2 : x9.nodes ≤ 2000 := by
          simp only [vals] at hev0
          cases h1 : a.val σ with
          | none => rw [h1] at hev0; cases hev0
          | some x8 =>
            rw [h1] at hev0
            cases h3 : vals σ rest with
            | none => rw [h3] at hev0; cases hev0
            | some tr8 =>
              rw [h3] at hev0
              simp only [Option.bind_some, Option.map_some, Option.some.injEq, List.cons.injEq] at hev0
              obtain ⟨rfl, _⟩ := hev0
              exact E.val_nodes HSN.out a _ h1
        rw [hnx] at hcx hcx9 hnx2
        have HNX := Lib.hid hnx
        have HSX := Lib.hid hsx
        have HQ := Lib.hid hqe
        have HEV1 : Hid (evS σ (xs.drop j) = some (x9.tl :: tr)) := by
          unfold Hid
          rw [HEVP.out, Option.bind_some, pushS_tail]
        clear hok' hx1 hev0 hown1 HRS1 HRS0 hr2 hrl ecut hsx hbx hnx hqe hnil
        go_wp2_with fail
        rw [← HW1.out]
        refine (l22Many_any ⟨4, 0⟩ _).mono ?_
        rintro e w' ⟨rfl, rfl⟩
        rw [hmany]
        clear hmany p0r
        go_wp2_with fail
        refine (l21Tail_any bx ox nx cx x9 _ HSX.out HNX.out (by omega) hcx9).mono ?_
        rintro e wc ⟨v9, rfl, own9, bb9⟩
        have hrd : RdT1 w.heap.size wc v9 x9.tl := RdT1.of_own own9 rfl
        have hcut := own_below' hcut1 bb9
        have HRS := Lib.hid (RdTs.map (fun u t h => h.below bb9) HRSR.out)
        have HB := Lib.hid (below_step HB1.out bb9)
        obtain ⟨n9, hn9⟩ : ∃ z, x9.tl.nodes = z := ⟨_, rfl⟩
        have hn9b : n9 ≤ 2000 := by have := x9.tl_nodes; have := HNX.out; omega
        have HEV : Hid (evS σ (xs.drop j) = if 2000 < n9 then none else some (x9.tl :: tr)) := by unfold Hid; rw [if_neg (by omega)]; exact HEV1.out
        obtain ⟨b9, o9, c9, rfl, _, _, _⟩ := id hrd
        rw [hn9] at hrd ⊢
        obtain ⟨t9, ht9⟩ : ∃ t9, x9.tl = t9 := ⟨_, rfl⟩
        rw [ht9] at hrd HEV
        clear own9 bb9 hcut1 HEV1 hn9 ht9 hcx
        by_cases hbig : 2000 < n9
        · have hbI : (2000 : Int) < (n9 : Int) := by omega
          have HNO := Lib.hid (evS_none (HEV.out.trans (if_pos hbig)))
          have FIN := Lib.hid (EvO.no (w := w) HNO.out HB.out)
          clear hbig
          go_wp2_with fail
          go_ret2
          exact FIN.out
        · have hbI : ¬ (2000 : Int) < (n9 : Int) := by omega
          have HYS := Lib.hid (HEV.out.trans (if_neg hbig))
          have hbz := HB.out.size
          clear hbig
          go_wp2_with (at_builtin; refine wpList_appg rfl _ _ _ rfl Try.underlying23 infoBoolSS' rfl (by omega) w.heap.size wc hcut hbz rfl 1 #[.slice (some ⟨b9, o9, none⟩) n9 c9] rfl (laid_below _ _) (heap_alloc_new _ _) rfl (by simp [Value.oneCell']) (by omega) (by unfold maxLen; omega) (by omega) ?_; intro g2 cap2 w2 hown2 hg2; have HRS2 := Lib.hid (RdTs.map (fun u t h => h.grown hcut hg2) (show RdTs w.heap.size wc (.slice (some ⟨b9, o9, none⟩) n9 c9 :: rr) (t9 :: tr) from ⟨hrd, HRS.out⟩)); have HB2 := Lib.hid (grown_below HB.out hcut (Nat.le_refl _) hg2); have HO2 := Lib.hid hown2; clear hown2 hg2 hcut hrd)
          go_roundw
          case rel =>
            refine ⟨j, .slice (some ⟨b9, o9, none⟩) n9 c9 :: rr, t9 :: tr, g2, cap2, q + 1, rfl, rfl, by omega, by rw [List.length_cons]; have := HQ.out; omega, by omega, HYS, HRS2, ?_, HB2⟩
            unfold Hid
            have := HO2.out
            rw [List.reverse_cons]
            exact this
          case measure => simp [intOf]
      | same a e2 =>
        obtain ⟨hx1, hd1, _⟩ := drop_head (show xs.drop j = ⟨5, 0⟩ :: eEncs (a :: e2 :: rest) from by rw [he']; simp [eEncs, E.enc])
        obtain ⟨p0, p1⟩ := HSL.out.rec2 hx1
        dsimp only at p0 p1
        have p0r : (wr.alloc (.cells #[.bool false] 4)).cell? ⟨b, o + j * 2, none⟩ = some (.int .i64 5) := by rw [← HW1.out]; exact p0
        have hev0 := HEV0.out
        rw [hd1, evS_encs] at hev0
        have hxd : xs.drop j = ⟨5, 0⟩ :: xs.drop (j + 1) := by rw [he', hd1]; simp [eEncs, E.enc]
        have HEVP : Hid (evS σ (xs.drop j) = (some ts).bind (pushS σ ⟨5, 0⟩)) := by unfold Hid; rw [hxd, evS, HEV0.out]
        have hmany : ((eFol ⟨5, 0⟩ : Nat) : Int) = 2 := by first | rfl | (simp [eFol])
        clear hd1 hxd he'
        obtain ⟨x9, y9, tr, rfl⟩ : ∃ x9 y9 tr, ts = x9 :: y9 :: tr := by
          simp only [vals] at hev0
          cases h1 : a.val σ with
          | none => rw [h1] at hev0; cases hev0
          | some x9 =>
            cases h2 : e2.val σ with
            | none => rw [h1, h2] at hev0; cases hev0
            | some y9 =>
              rw [h1, h2] at hev0
              cases h3 : vals σ rest with
              | none => rw [h3] at hev0; cases hev0
              | some tr => rw [h3] at hev0; exact ⟨x9, y9, tr, by injection hev0 with h; exact h.symm⟩
        obtain ⟨ux, us1, rfl, hux, hr1⟩ := HRS1.out.cons
        obtain ⟨uy, rr, rfl, huy, hr2⟩ := hr1.cons
        have HRSR := Lib.hid hr2
        obtain ⟨q, hqe⟩ : ∃ q, tr.length = q := ⟨_, rfl⟩
        obtain rfl : Q = q + 1 + 1 := by rw [← hts, List.length_cons, List.length_cons, hqe]
        have hrl : rr.length = q := by rw [hr2.len, hqe]
        have i1 : (0 : Int) ≤ (q : Int) + 1 := by omega
        have i2 : (q : Int) + 1 < (q : Int) + 1 + 1 := by omega
        have i4 : (q : Int) < (q : Int) + 1 + 1 := by omega
        have i5 : ((q : Int) + 1).toNat = q + 1 := by omega
        have i7 : IntKind.i64.wrap (q : Int) = (q : Int) := IntWalk.i64_in _ (by omega)
        have hcx : w1.cell? ⟨g, q + 1, none⟩ = some ux := by rw [hown1.cellAt _ (by omega)]; simp [hrl]
        have hcy : w1.cell? ⟨g, q, none⟩ = some uy := by rw [hown1.cellAt _ (by omega)]; simp [hrl]
        have hcut := own_cut hown1 (m := q) (by omega)
        have ecut : ((ux :: uy :: rr).reverse).take (q * 1) = rr.reverse := by
          rw [List.reverse_cons, List.reverse_cons, List.append_assoc, List.take_append_of_le_length (by rw [List.length_reverse]; omega), List.take_of_length_le (by rw [List.length_reverse]; omega)]
        rw [ecut] at hcut
        obtain ⟨bx, ox, cx, rfl, hcx9, hsx, hbx⟩ := hux
        obtain ⟨by_, oy, cy, rfl, hcy9, hsy, hby⟩ := huy
        obtain ⟨nx, hnx⟩ : ∃ z, x9.nodes = z := ⟨_, rfl⟩
        obtain ⟨ny, hny⟩ : ∃ z, y9.nodes = z := ⟨_, rfl⟩
        have hbig2 : x9.nodes ≤ 2000 ∧ y9.nodes ≤ 2000 := by
          simp only [vals] at hev0
          cases h1 : a.val σ with
          | none => rw [h1] at hev0; cases hev0
          | some x8 =>
            cases h2 : e2.val σ with
            | none => rw [h1, h2] at hev0; cases hev0
            | some y8 =>
              rw [h1, h2] at hev0
              cases h3 : vals σ rest with
              | none => rw [h3] at hev0; cases hev0
              | some tr8 =>
                rw [h3] at hev0
                simp only [Option.bind_some, Option.map_some, Option.some.injEq, List.cons.injEq] at hev0
                obtain ⟨rfl, rfl, _⟩ := hev0
                exact ⟨E.val_nodes HSN.out a _ h1, E.val_nodes HSN.out e2 _ h2⟩
        obtain ⟨hnx2, hny2⟩ := hbig2
        rw [hnx] at hcx hcx9 hnx2
        rw [hny] at hcy hcy9 hny2
        have HNX := Lib.hid hnx; have HNY := Lib.hid hny
        have HSX := Lib.hid hsx; have HSY := Lib.hid hsy
        have HQ := Lib.hid hqe
        have hgs := HB1.out.size
        have hbg := hcut.lt g rfl
        cases hsm : T.same x9 y9 with
        | false =>
          have HC := Lib.hid (cmp_same x9 y9)
          rw [hsm] at HC
          have HEV1 : Hid (evS σ (xs.drop j) = some (T.nil :: tr)) := by
            unfold Hid
            rw [HEVP.out, Option.bind_some, pushS_same]
            unfold sameT
            rw [hsm]; rfl
          obtain ⟨z9, hz9⟩ : ∃ z, cmpB x9.enc y9.enc = z := ⟨_, rfl⟩
          rw [hz9] at HC
          have hzb : (z9 == 0) = false := HC.out
          have HZ9 := Lib.hid hz9
          have HCMP : Hid (∀ W : World, Sl W bx ox (x9.enc.map .bool) → Sl W by_ oy (y9.enc.map .bool) → Calls Try.prog 58 #[.slice (some ⟨bx, ox, none⟩) nx cx, .slice (some ⟨by_, oy, none⟩) ny cy] W fun e w' => e = .returned (.int .i64 z9) ∧ ∃ q, w' = W.drewN q) := by
            intro W ha hb
            have := l21Compare_any bx ox nx cx by_ oy ny cy x9.enc y9.enc W ha hb (by rw [T.length_enc]; exact HNX.out) (by rw [T.length_enc]; exact HNY.out) (by omega) (by omega)
            rw [HZ9.out] at this
            exact this
          clear hsm hz9 
          clear hok' hx1 hev0 hown1 HRS1 HRS0 hr1 hr2 hrl ecut hcx9 hcy9 hsx hsy hbx hby hnx hny hqe
          go_wp2_with fail
          rw [← HW1.out]
          refine (l22Many_any ⟨5, 0⟩ _).mono ?_
          rintro e w' ⟨rfl, rfl⟩
          rw [hmany]
          clear hmany p0r
          go_wp2_with fail
          go_quiet ((go_at_call 58; exact quiet_q (HCMP.out _ (HSX.out.drewN _) (HSY.out.drewN _))))
          have bq : Below w1.heap.size w1 (w1.drewN nq) := below_drewN (Below.refl _ _) nq
          have hcutq := own_below' hcut bq
          have HRSQ := Lib.hid (RdTs.map (fun u t h => h.below bq) HRSR.out)
          have HBQ := Lib.hid (below_step HB1.out bq)
          have hrdq := hnil.below bq
          clear hcut HRSR HB1 HSX HSY p0 p1 hcx hcy HZ9 hnil
          generalize w1.drewN nq = wc at hcutq HRSQ HBQ hrdq bq ⊢
          have hcut := hcutq; have HRS := HRSQ; have HB := HBQ; have hrd := hrdq
          clear hcutq HRSQ HBQ hrdq bq
          have HEV : Hid (evS σ (xs.drop j) = if 2000 < 1 then none else some (T.nil :: tr)) := by unfold Hid; rw [if_neg (by omega)]; exact HEV1.out
          have HYS := Lib.hid (HEV.out.trans (if_neg (by decide)))
          have hbz := HB.out.size
          go_wp2_with (at_builtin; refine wpList_appg rfl _ _ _ rfl Try.underlying23 infoBoolSS' rfl (by omega) w.heap.size wc hcut hbz rfl 1 #[.slice (some ⟨wr.heap.size, 0, none⟩) 1 1] rfl (laid_below _ _) (heap_alloc_new _ _) rfl (by simp [Value.oneCell']) (by omega) (by unfold maxLen; omega) (by omega) ?_; intro g2 cap2 w2 hown2 hg2; have HRS2 := Lib.hid (RdTs.map (fun u t h => h.grown hcut hg2) (show RdTs w.heap.size wc (.slice (some ⟨wr.heap.size, 0, none⟩) 1 1 :: rr) (T.nil :: tr) from ⟨hrd, HRS.out⟩)); have HB2 := Lib.hid (grown_below HB.out hcut (Nat.le_refl _) hg2); have HO2 := Lib.hid hown2; clear hown2 hg2 hcut hrd)
          go_roundw
          case rel =>
            refine ⟨j, .slice (some ⟨wr.heap.size, 0, none⟩) 1 1 :: rr, T.nil :: tr, g2, cap2, q + 1, rfl, rfl, by omega, by rw [List.length_cons]; have := HQ.out; omega, by omega, HYS, HRS2, ?_, HB2⟩
            unfold Hid
            have := HO2.out
            rw [List.reverse_cons]
            exact this
          case measure => simp [intOf]
        | true =>
          have HC := Lib.hid (cmp_same x9 y9)
          rw [hsm] at HC
          have HEV1 : Hid (evS σ (xs.drop j) = some (T.pair .nil .nil :: tr)) := by
            unfold Hid
            rw [HEVP.out, Option.bind_some, pushS_same]
            unfold sameT
            rw [hsm]; rfl
          obtain ⟨z9, hz9⟩ : ∃ z, cmpB x9.enc y9.enc = z := ⟨_, rfl⟩
          rw [hz9] at HC
          have hzb : (z9 == 0) = true := HC.out
          have HZ9 := Lib.hid hz9
          have HCMP : Hid (∀ W : World, Sl W bx ox (x9.enc.map .bool) → Sl W by_ oy (y9.enc.map .bool) → Calls Try.prog 58 #[.slice (some ⟨bx, ox, none⟩) nx cx, .slice (some ⟨by_, oy, none⟩) ny cy] W fun e w' => e = .returned (.int .i64 z9) ∧ ∃ q, w' = W.drewN q) := by
            intro W ha hb
            have := l21Compare_any bx ox nx cx by_ oy ny cy x9.enc y9.enc W ha hb (by rw [T.length_enc]; exact HNX.out) (by rw [T.length_enc]; exact HNY.out) (by omega) (by omega)
            rw [HZ9.out] at this
            exact this
          clear hsm hz9 hnil 
          clear hok' hx1 hev0 hown1 HRS1 HRS0 hr1 hr2 hrl ecut hcx9 hcy9 hsx hsy hbx hby hnx hny hqe
          go_wp2_with fail
          rw [← HW1.out]
          refine (l22Many_any ⟨5, 0⟩ _).mono ?_
          rintro e w' ⟨rfl, rfl⟩
          rw [hmany]
          clear hmany p0r
          go_wp2_with fail
          go_quiet ((go_at_call 58; exact quiet_q (HCMP.out _ (HSX.out.drewN _) (HSY.out.drewN _))))
          have bq : Below w1.heap.size w1 (w1.drewN nq) := below_drewN (Below.refl _ _) nq
          have hcutq := own_below' hcut bq
          have HRSQ := Lib.hid (RdTs.map (fun u t h => h.below bq) HRSR.out)
          have HBQ := Lib.hid (below_step HB1.out bq)
          clear hcut HRSR HB1 HSX HSY p0 p1 hcx hcy HZ9
          generalize w1.drewN nq = wq at hcutq HRSQ HBQ bq ⊢
          obtain ⟨wc, HWC, bc, xc⟩ := al1 wq (.cells #[.bool true, .bool false, .bool false] 4)
          have hcut := own_below' hcutq bc
          have HRS := Lib.hid (RdTs.map (fun u t h => h.below bc) HRSQ.out)
          have HB := Lib.hid (below_step HBQ.out bc)
          have hrd : RdT1 w.heap.size wc (.slice (some ⟨wq.heap.size, 0, none⟩) 3 3) (T.pair .nil .nil) := ⟨wq.heap.size, 0, 3, rfl, Nat.le_refl _, ⟨heap_lt xc, fun i u hu => by rw [cell_of_heap xc]; simpa [T.enc] using hu⟩, .inr ⟨_, _, xc⟩⟩
          have HEV : Hid (evS σ (xs.drop j) = if 2000 < 3 then none else some (T.pair .nil .nil :: tr)) := by unfold Hid; rw [if_neg (by omega)]; exact HEV1.out
          have HSZ9 : Hid (wq.heap.size + 1 = wc.heap.size) := by unfold Hid; rw [HWC.out]; simp
          clear hcutq HRSQ HBQ bc xc
          have HYS := Lib.hid (HEV.out.trans (if_neg (by decide)))
          have hbz := HB.out.size
          go_wp2_with (at_builtin; rw [← HWC.out]; refine wpList_appgh rfl _ _ _ rfl Try.underlying23 infoBoolSS' rfl (by omega) w.heap.size wc (wq.heap.size + 1) HSZ9.out hcut hbz rfl 1 #[.slice (some ⟨wq.heap.size, 0, none⟩) 3 3] rfl (laid_below _ _) (heap_alloc_new _ _) rfl (by simp [Value.oneCell']) (by omega) (by unfold maxLen; omega) (by omega) ?_; intro g2 cap2 w2 hown2 hg2; have HRS2 := Lib.hid (RdTs.map (fun u t h => h.grown hcut hg2) (show RdTs w.heap.size wc (.slice (some ⟨wq.heap.size, 0, none⟩) 3 3 :: rr) ((T.pair .nil .nil) :: tr) from ⟨hrd, HRS.out⟩)); have HB2 := Lib.hid (grown_below HB.out hcut (Nat.le_refl _) hg2); have HO2 := Lib.hid hown2; clear hown2 hg2 hcut hrd)
          go_roundw
          case rel =>
            refine ⟨j, .slice (some ⟨wq.heap.size, 0, none⟩) 3 3 :: rr, (T.pair .nil .nil) :: tr, g2, cap2, q + 1, rfl, rfl, by omega, by rw [List.length_cons]; have := HQ.out; omega, by omega, HYS, HRS2, ?_, HB2⟩
            unfold Hid
            have := HO2.out
            rw [List.reverse_cons]
            exact this
          case measure => simp [intOf]
end Go.Proofs.Ytgcedfpjgdeakaa
