/- The law FnExactRunFuncProgram returns true for every input, and each argument reads afterwards as before: the proof, part 8. No conditions. -/
import Derived.Test.YtjggkgdojhlhpaaGreatRunFuncProgramZg
import Derived.Deep.DeepCutAuto
/- One step of a register program, by the reference. -/
namespace Go.Proofs.YtjggkgdojhlhpaaGreat
open Go.RowKit
set_option linter.all false

theorem own_adr' {w : World} {base : Nat} {e : TypeId} {size n : Nat} {v : Value} {xs : List Value} (h : w.ownsRow base e size v n xs) (hne : v ≠ .slice none 0 0) : ∃ g d, v = .slice (some ⟨g, 0, none⟩) n d ∧ n ≤ d := by
  rcases h.2 with ⟨h0, _⟩ | ⟨g, cap, cur, h0, _, _, h1, _⟩
  · exact absurd h0 hne
  · exact ⟨g, cap, h0, h1⟩

theorem stepR_inc {x : R4} {cs : List Int} {r : Nat} {v : Int} (ha : x.a = 0) (hb : x.b = (r : Int)) (hv : cs[r]? = some v) : stepR x cs = (x.c, cs.set r (v + 1)) ∧ overR x cs = decide (1000000 ≤ v) := by
  have e : cs.getD r 0 = v := by rw [List.getD_eq_getElem?_getD, hv]; rfl
  unfold stepR overR
  rw [hb, Int.toNat_natCast, e, if_pos ha, decide_eq_true ha, Bool.true_and]
  exact ⟨rfl, rfl⟩
theorem stepR_zero {x : R4} {cs : List Int} {r : Nat} (ha : x.a = 1) (hb : x.b = (r : Int)) (hv : cs[r]? = some 0) : stepR x cs = (x.d, cs) ∧ overR x cs = false := by
  have e : cs.getD r 0 = 0 := by rw [List.getD_eq_getElem?_getD, hv]; rfl
  have h0 : ¬ x.a = 0 := by omega
  unfold stepR overR
  rw [hb, Int.toNat_natCast, e, if_neg h0, if_pos rfl, decide_eq_false h0, Bool.false_and]
  exact ⟨rfl, rfl⟩
theorem stepR_dec {x : R4} {cs : List Int} {r : Nat} {v : Int} (ha : x.a = 1) (hb : x.b = (r : Int)) (hv : cs[r]? = some v) (h : v ≠ 0) : stepR x cs = (x.c, cs.set r (v - 1)) ∧ overR x cs = false := by
  have e : cs.getD r 0 = v := by rw [List.getD_eq_getElem?_getD, hv]; rfl
  have h0 : ¬ x.a = 0 := by omega
  unfold stepR overR
  rw [hb, Int.toNat_natCast, e, if_neg h0, if_neg h, decide_eq_false h0, Bool.false_and]
  exact ⟨rfl, rfl⟩

theorem cell_lt' {w : World} {b o : Nat} {u : Value} (h : w.cell? ⟨b, o, none⟩ = some u) : b < w.heap.size := by
  unfold World.cell? at h
  cases k : w.heap[b]? with
  | none => simp [k] at h
  | some x => exact heap_lt k

theorem own_set_far {w : World} {base : Nat} {e : TypeId} {size n : Nat} {v : Value} {xs : List Value} (h : w.ownsRow base e size v n xs) (p : Addr) (u : Value) (hp : p.block < base) : (w.setCell p u).ownsRow base e size v n xs := by
  refine ⟨h.1, ?_⟩
  rcases h.2 with hn | ⟨g, cap, cur, rfl, h1, hg, rest⟩
  · exact .inl hn
  · exact .inr ⟨g, cap, cur, rfl, h1, (Below.heap_setCell w p u g (by omega)).trans hg, rest⟩

theorem own_frozen {w : World} {base : Nat} {e : TypeId} {size g n c : Nat} {xs : List Value} (h : w.ownsRow base e size (.slice (some ⟨g, 0, none⟩) n c) n xs) (j : Nat) : w.frozen? ⟨g, j, none⟩ = false := by
  rcases h.2 with ⟨h0, _⟩ | ⟨g', cap, cur, h0, _, hg, _⟩
  · cases h0
  · injection h0 with h0; injection h0 with h0; injection h0 with h0; subst h0; exact frozen_of_heap hg

theorem own_set_other {w : World} {base : Nat} {e : TypeId} {size n g c : Nat} {xs : List Value} (h : w.ownsRow base e size (.slice (some ⟨g, 0, none⟩) n c) n xs) (p : Addr) (u : Value) (hp : g ≠ p.block) : (w.setCell p u).ownsRow base e size (.slice (some ⟨g, 0, none⟩) n c) n xs := by
  refine ⟨h.1, ?_⟩
  rcases h.2 with hn | ⟨g', cap, cur, h0, h1, hg, rest⟩
  · exact .inl hn
  · have e : g = g' := by injection h0 with h0; injection h0 with h0; injection h0
    subst e
    exact .inr ⟨g, cap, cur, h0, h1, (Below.heap_setCell w p u g hp).trans hg, rest⟩

set_option maxRecDepth 100000 in
theorem l00OwnR_any (b off n c : Nat) (xs : List Int) (w : World) (hs : Sl w b off (xs.map (.int .i64))) (hl : xs.length = n) (hn : n ≤ 4194304) :
    Calls Tryz.prog 40 #[.slice (some ⟨b, off, none⟩) n c] w fun e w' => ∃ g d, e = .returned (.slice (some ⟨g, 0, none⟩) n d) ∧ w'.ownsRow w.heap.size 2 1 (.slice (some ⟨g, 0, none⟩) n d) n (xs.map (.int .i64)) ∧ Below w.heap.size w w' ∧ n ≤ d := by
  have HL := Lib.hid hl; clear hl
  have hown0 : (w.alloc (.cells #[] 2)).ownsRow w.heap.size 2 1 (.slice (some ⟨w.heap.size, 0, none⟩) 0 0) 0 [] := World.ownsRow_made w #[] 0 (by simp) (by simp [maxLen]) rfl
  have hB0 := laid_below w (.cells #[] 2)
  have hsrc : Src 1 (w.alloc (.cells #[] 2)) (.slice (some ⟨b, off, none⟩) n c) n (xs.map (.int .i64)) := Src.of_sl (hs.below' hB0) (by have := HL.out; simp; omega)
  go_enter Tryz.func40, Tryz.ntmps40
  go_wp2_with (at_builtin; refine wpList_appx rfl (.tmp 3) (.tmp 4) _ rfl Tryz.underlying23 infoInt64S rfl (by omega) w.heap.size hown0 hB0.size rfl hsrc rfl (one_ints _ _) (by unfold maxLen; omega) (by omega) ?_; intro v2 w2 hown2 hg2 hnil2; have hB2 := grown_below hB0 hown0 (Nat.le_refl _) hg2; obtain ⟨g2, d2, rfl, hd2⟩ := own_adr' hown2 (fun e => by cases (hnil2 e).1); clear hnil2 hown0 hB0 hsrc hg2)
  go_ret
  have hown3 : w2.ownsRow w.heap.size 2 1 (.slice (some ⟨g2, 0, none⟩) n d2) n (xs.map (Value.int .i64)) := by simpa using hown2
  exact ⟨g2, d2, by first | rfl | rw [Nat.zero_add], hown3, hB2, by omega⟩

theorem l07Halts_is (A : Option Addr) (n c g i : Nat) (v : Bool) (w : World) (hv : decide (i = n) = v) (hx : w.cell? ⟨g, 0, none⟩ = some (.int .i64 i)) :
    Calls Tryz.prog 41 #[.slice A n c, .pointer (some ⟨g, 0, none⟩)] w fun e w' => e = .returned (.bool v) ∧ w = w' := by
  have HV := Lib.hid hv; clear hv
  go_enter Tryz.func41, Tryz.ntmps41
  go_wp2_with fail
  go_ret
  exact ⟨ret_bool (by rw [← HV.out]; apply Bool.eq_iff_iff.2; simp; omega), rfl⟩

set_option maxRecDepth 100000 in
set_option maxHeartbeats 1000000 in
theorem l07Step_any (b off n c : Nat) (xs : List R4) (x : R4) (i r gx gb cb : Nat) (cs : List Int) (v : Int) (w : World)
    (hs : Sl w b off (rows R4.vs xs)) (hx : xs[i]? = some x) (hi : i < n) (hn : n ≤ 1048576) (hr : x.b = (r : Int)) (hr2 : r < 24) (hcl : cs.length = 24) (hv : cs[r]? = some v) (hv0 : 0 ≤ v ∧ v ≤ 1000000) (hk : x.a = 0 ∨ x.a = 1)
    (h0 : w.cell? ⟨gx, 0, none⟩ = some (.int .i64 i)) (h1 : w.cell? ⟨gx, 1, none⟩ = some (.slice (some ⟨gb, 0, none⟩) 24 cb)) (hsc : Sl w gb 0 (cs.map (.int .i64))) :
    Calls Tryz.prog 42 #[.slice (some ⟨b, off, none⟩) n c, .pointer (some ⟨gx, 0, none⟩)] w fun e w' => ∃ g d, e = .returned (.tuple #[.agg #[.int .i64 (stepR x cs).1, .slice (some ⟨g, 0, none⟩) 24 d], .bool (!overR x cs)]) ∧
      w'.ownsRow w.heap.size 2 1 (.slice (some ⟨g, 0, none⟩) 24 d) 24 ((stepR x cs).2.map (.int .i64)) ∧ Below w.heap.size w w' ∧ 24 ≤ d := by
  obtain ⟨xa, xb, xc, xd⟩ := x
  dsimp only at hr hk
  subst hr
  obtain ⟨w0, HW0, B0, x0, y0⟩ := al2 w (.cells #[.int .i64 0, .slice none 0 0] 43) (.cells #[.int .i64 xa, .int .i64 r, .int .i64 xc, .int .i64 xd] 66)
  have HCL := Lib.hid hcl; clear hcl
  obtain ⟨q0, q1, q2, q3⟩ := hs.rec4 hx
  have HX := Lib.hid hx; clear hx
  have z1 := cell_step h1 B0
  have sc0 := hsc.below' B0
  have p2 : w0.cell? ⟨w.heap.size + 1, 2, none⟩ = some (.int .i64 xc) := by rw [cell_of_heap y0]; rfl
  have B01 := laid_below w (.cells #[.int .i64 0, .slice none 0 0] 43)
  have z00 := cell_step h0 B01
  have q00 := cell_step q0 B01
  have q10 := cell_step q1 B01
  have q20 := cell_step q2 B01
  have q30 := cell_step q3 B01
  clear q0 q1 q2 q3 B01 h0 h1 hsc hs
  go_enter Tryz.func42, Tryz.ntmps42
  go_upto_region 2 with fail
  rw [← HW0.out]
  clear z00 q00 q10 q20 q30
  go_cut [7] (fun s7 wx => ∃ T g d : Nat, s7 = .pointer (some ⟨T, 0, none⟩) ∧ wx.heap[T]? = some (.cells #[.int .i64 xc, .slice (some ⟨g, 0, none⟩) 24 d] 43 (0, 0)) ∧ wx.ownsRow w0.heap.size 2 1 (.slice (some ⟨g, 0, none⟩) 24 d) 24 (cs.map (.int .i64)) ∧ Below w0.heap.size w0 wx ∧ w0.heap.size ≤ T ∧ T ≠ g ∧ 24 ≤ d)
  case first =>
    have sc1 : Sl (w0.alloc (.cells #[.int .i64 0, .slice none 0 0] 43)) gb 0 (cs.map (.int .i64)) := sc0.below' (laid_below _ _)
    have n0 : w.heap.size + 1 ≠ w0.heap.size := by have := cell_lt' p2; omega
    have n1 : gx ≠ w0.heap.size := by have := cell_lt' z1; omega
    have k0 := cell_step p2 (laid_below w0 (.cells #[.int .i64 0, .slice none 0 0] 43))
    have k1 := cell_step z1 (laid_below w0 (.cells #[.int .i64 0, .slice none 0 0] 43))
    go_region_held3 (fun W => W.cell? ⟨w.heap.size + 1, 2, none⟩ = some (.int .i64 xc) ∧ W.cell? ⟨gx, 1, none⟩ = some (.slice (some ⟨gb, 0, none⟩) 24 cb)) (first | exact ⟨p2, z1⟩ | exact ⟨k0, k1⟩ | exact ⟨r0, r1⟩ | exact ⟨cell_set_far (cell_set_far r0 n0) n0, cell_set_far (cell_set_far r1 n1) n1⟩ | go_keep)
      (first
        | (go_at_call 40; refine (l00OwnR_any gb 0 24 cb cs _ (by exact sc1) HCL.out (by omega)).mono ?_; rintro e w3 ⟨g, d, rfl, own3, b3, hd3⟩; have b3' : Below (w0.alloc (.cells #[.int .i64 0, .slice none 0 0] 43)).heap.size (w0.alloc (.cells #[.int .i64 0, .slice none 0 0] 43)) w3 := ⟨b3.os, b3.tape, b3.output, b3.size, b3.block⟩; have b4 : Below w0.heap.size w0 w3 := below_step (laid_below _ _) b3'; have x3 : w3.heap[w0.heap.size]? = some (.cells #[.int .i64 0, .slice none 0 0] 43 (0, 0)) := (b3'.block _ (heap_lt (heap_alloc_new w0 _))).trans (heap_alloc_new w0 _); have r0 : w3.cell? ⟨w.heap.size + 1, 2, none⟩ = some (.int .i64 xc) := cell_step p2 b4; have r1 : w3.cell? ⟨gx, 1, none⟩ = some (.slice (some ⟨gb, 0, none⟩) 24 cb) := cell_step z1 b4; have e0 : w3.cell? ⟨w0.heap.size, 0, none⟩ = some (.int .i64 0) := (by rw [cell_of_heap x3]; rfl); have e1 : w3.cell? ⟨w0.heap.size, 1, none⟩ = some (.slice none 0 0) := (by rw [cell_of_heap x3]; rfl); have f0 : w3.frozen? ⟨w0.heap.size, 0, none⟩ = false := frozen_of_heap x3; have f1 : w3.frozen? ⟨w0.heap.size, 1, none⟩ = false := frozen_of_heap x3)
        | (go_at_call 40; refine (l00OwnR_any gb 0 24 cb cs _ (by exact sc0) HCL.out (by omega)).mono ?_; rintro e w3 ⟨g, d, rfl, own3, b3, hd3⟩; have b4 : Below w0.heap.size w0 w3 := ⟨b3.os, b3.tape, b3.output, b3.size, b3.block⟩; have x3 := True.intro; have r0 : w3.cell? ⟨w.heap.size + 1, 2, none⟩ = some (.int .i64 xc) := cell_step p2 b4; have r1 : w3.cell? ⟨gx, 1, none⟩ = some (.slice (some ⟨gb, 0, none⟩) 24 cb) := cell_step z1 b4))
    all_goals (go_wp2_with fail; go_meet)
    all_goals have hlA : w0.heap.size < (w0.alloc (.cells #[.int .i64 0, .slice none 0 0] 43)).heap.size := heap_lt (heap_alloc_new w0 _)
    · exact ⟨w3.heap.size, g, d, rfl, heap_alloc_new w3 _, own_below' own3 (laid_below _ _), below_step b4 (laid_below _ _), b4.size, (Nat.ne_of_lt (own3.lt g rfl).2).symm, hd3⟩
    · exact ⟨w0.heap.size, g, d, rfl, heap_set (heap_set x3 _) _, own_base (own_set_far (own_set_far own3 ⟨w0.heap.size, 0, none⟩ (.int .i64 xc) hlA) ⟨w0.heap.size, 1, none⟩ (.slice (some ⟨g, 0, none⟩) 24 d) hlA) (Nat.le_of_lt hlA), (b4.setCell (p := ⟨w0.heap.size, 0, none⟩) (Nat.le_refl _) _).setCell (p := ⟨w0.heap.size, 1, none⟩) (Nat.le_refl _) _, Nat.le_refl _, Nat.ne_of_lt (Nat.lt_of_lt_of_le hlA (own3.lt g rfl).1), hd3⟩
  case rest =>
    obtain ⟨T, g, d, rfl, hT, own, bc, hTl, hTg, hd⟩ := hcut
    have hgl := (own.lt g rfl).1
    have x0w := heap_lt x0
    have y0w := heap_lt y0
    have hgT : g ≠ T := fun e => hTg e.symm
    have x0c := (bc.block _ (heap_lt x0)).trans x0
    have y0c := (bc.block _ (heap_lt y0)).trans y0
    have Bc := below_step B0 bc
    have k0 : wc.cell? ⟨w.heap.size + 1, 0, none⟩ = some (.int .i64 xa) := by rw [cell_of_heap y0c]; rfl
    have k1 : wc.cell? ⟨w.heap.size + 1, 1, none⟩ = some (.int .i64 r) := by rw [cell_of_heap y0c]; rfl
    have k3 : wc.cell? ⟨w.heap.size + 1, 3, none⟩ = some (.int .i64 xd) := by rw [cell_of_heap y0c]; rfl
    have t0 : wc.cell? ⟨T, 0, none⟩ = some (.int .i64 xc) := by rw [cell_of_heap hT]; rfl
    have t1 : wc.cell? ⟨T, 1, none⟩ = some (.slice (some ⟨g, 0, none⟩) 24 d) := by rw [cell_of_heap hT]; rfl
    have tf : wc.frozen? ⟨T, 0, none⟩ = false := frozen_of_heap hT
    have cr : wc.cell? ⟨g, r, none⟩ = some (.int .i64 v) := by
      have := (sl_of_own own).at (j := r) (u := .int .i64 v) (by rw [List.getElem?_map, hv]; rfl)
      simpa using this
    have zf : wc.frozen? ⟨g, r, none⟩ = false := own_frozen own _
    have ir0 : (0 : Int) ≤ (r : Int) := by omega
    have ir1 : (r : Int) < (24 : Int) := by omega
    have ir2 : (r : Int) ≤ (24 : Int) := by omega
    rcases hk with rfl | rfl
    · obtain ⟨e1, e2⟩ := stepR_inc (x := ⟨0, r, xc, xd⟩) rfl rfl hv
      have HE1 := Lib.hid e1
      have HE2 := Lib.hid e2
      have wv : IntKind.i64.wrap (v + 1) = v + 1 := IntWalk.i64_in _ (by omega)
      obtain ⟨W2, HW2, own2, B2, x2, y2, T2⟩ : ∃ W2, Hid (W2 = wc.setCell ⟨g, r, none⟩ (.int .i64 (v + 1))) ∧ W2.ownsRow w0.heap.size 2 1 (.slice (some ⟨g, 0, none⟩) 24 d) 24 ((cs.set r (v + 1)).map (.int .i64)) ∧ Below w.heap.size w W2 ∧ W2.heap[w.heap.size]? = some (.cells #[.int .i64 0, .slice none 0 0] 43 (0, 0)) ∧ W2.heap[w.heap.size + 1]? = some (.cells #[.int .i64 0, .int .i64 r, .int .i64 xc, .int .i64 xd] 66 (0, 0)) ∧ W2.heap[T]? = some (.cells #[.int .i64 xc, .slice (some ⟨g, 0, none⟩) 24 d] 43 (0, 0)) := by
        refine ⟨_, rfl, ?_, ?_, ?_, ?_, ?_⟩
        · have := (own.stored r (.int .i64 (v + 1))).1
          rw [List.map_set]; exact this
        · exact Bc.setCell (p := ⟨g, r, none⟩) (by dsimp only; omega) _
        · exact heap_set_other x0c _ (by dsimp only; omega) _
        · exact heap_set_other y0c _ (by dsimp only; omega) _
        · exact heap_set_other hT _ (by dsimp only; exact hTg) _
      clear own bc e1 e2 x0c y0c hT
      have m0 : W2.cell? ⟨w.heap.size, 0, none⟩ = some (.int .i64 0) := by rw [cell_of_heap x2]; rfl
      have m1 : W2.cell? ⟨w.heap.size, 1, none⟩ = some (.slice none 0 0) := by rw [cell_of_heap x2]; rfl
      have f0 : W2.frozen? ⟨w.heap.size, 0, none⟩ = false := frozen_of_heap x2
      have f1 : W2.frozen? ⟨w.heap.size, 1, none⟩ = false := frozen_of_heap x2
      have u0 : W2.cell? ⟨T, 0, none⟩ = some (.int .i64 xc) := by rw [cell_of_heap T2]; rfl
      have u1 : W2.cell? ⟨T, 1, none⟩ = some (.slice (some ⟨g, 0, none⟩) 24 d) := by rw [cell_of_heap T2]; rfl
      have u2 : W2.cell? ⟨w.heap.size + 1, 1, none⟩ = some (.int .i64 r) := by rw [cell_of_heap y2]; rfl
      have u3 : W2.cell? ⟨g, r, none⟩ = some (.int .i64 (v + 1)) := by
        have := (sl_of_own own2).at (j := r) (u := .int .i64 (v + 1)) (by rw [List.getElem?_map, List.getElem?_set_self (by have := HCL.out; omega)]; rfl)
        simpa using this
      go_wp2_with fail
      rw [← HW2.out]
      clear k0 k1 k3 t0 t1 tf cr zf
      have ng : g ≠ w.heap.size := by omega
      have nT : T ≠ w.heap.size := by omega
      have n1 : w.heap.size + 1 ≠ w.heap.size := by omega
      go_region_held3 (fun W => W.cell? ⟨T, 0, none⟩ = some (.int .i64 xc) ∧ W.cell? ⟨T, 1, none⟩ = some (.slice (some ⟨g, 0, none⟩) 24 d) ∧ W.cell? ⟨w.heap.size + 1, 1, none⟩ = some (.int .i64 r) ∧ W.cell? ⟨g, r, none⟩ = some (.int .i64 (v + 1))) (first | exact ⟨u0, u1, u2, u3⟩ | exact ⟨cell_set_far (cell_set_far u0 nT) nT, cell_set_far (cell_set_far u1 nT) nT, cell_set_far (cell_set_far u2 n1) n1, cell_set_far (cell_set_far u3 ng) ng⟩ | go_keep) (fail)
      all_goals
        go_wp2_with fail
        refine bodyPost_ret (v := .tuple #[.agg #[.int .i64 xc, .slice (some ⟨g, 0, none⟩) 24 d], .bool (decide (v + 1 ≤ 1000000))]) (by simp [results, Tryz.results42, go_sem, m0, m1]) rfl ?_
        refine ⟨g, d, ?_, ?_, ?_, hd⟩
        · rw [HE1.out, HE2.out]; congr 4; by_cases h9 : v + 1 ≤ 1000000 <;> simp [h9] <;> omega
        · rw [HE1.out]
          exact own_base (own_set_far (own_set_far own2 ⟨w.heap.size, 0, none⟩ (.int .i64 xc) x0w) ⟨w.heap.size, 1, none⟩ (.slice (some ⟨g, 0, none⟩) 24 d) x0w) B0.size
        · exact ((B2.setCell (p := ⟨w.heap.size, 0, none⟩) (Nat.le_refl _) _).setCell (p := ⟨w.heap.size, 1, none⟩) (Nat.le_refl _) _).drew
    · by_cases hv9 : v = 0
      · subst hv9
        obtain ⟨e1, e2⟩ := stepR_zero (x := ⟨1, r, xc, xd⟩) rfl rfl hv
        have HE1 := Lib.hid e1
        have HE2 := Lib.hid e2
        obtain ⟨W2, HW2, own2, B2, x2, T2⟩ : ∃ W2, Hid (W2 = wc.setCell ⟨T, 0, none⟩ (.int .i64 xd)) ∧ W2.ownsRow w0.heap.size 2 1 (.slice (some ⟨g, 0, none⟩) 24 d) 24 ((cs).map (.int .i64)) ∧ Below w.heap.size w W2 ∧ W2.heap[w.heap.size]? = some (.cells #[.int .i64 0, .slice none 0 0] 43 (0, 0)) ∧ W2.heap[T]? = some (.cells #[.int .i64 xd, .slice (some ⟨g, 0, none⟩) 24 d] 43 (0, 0)) := by
          refine ⟨_, rfl, ?_, ?_, ?_, ?_⟩
          · exact own_set_other own _ _ hgT
          · exact Bc.setCell (p := ⟨T, 0, none⟩) (by dsimp only; omega) _
          · exact heap_set_other x0c _ (by dsimp only; omega) _
          · exact heap_set hT _
        clear own bc e1 e2 x0c y0c hT
        have HW2e := HW2.out
        clear HW2
        subst HW2e
        have m0 : (wc.setCell ⟨T, 0, none⟩ (.int .i64 xd)).cell? ⟨w.heap.size, 0, none⟩ = some (.int .i64 0) := by rw [cell_of_heap x2]; rfl
        have m1 : (wc.setCell ⟨T, 0, none⟩ (.int .i64 xd)).cell? ⟨w.heap.size, 1, none⟩ = some (.slice none 0 0) := by rw [cell_of_heap x2]; rfl
        have f0 : (wc.setCell ⟨T, 0, none⟩ (.int .i64 xd)).frozen? ⟨w.heap.size, 0, none⟩ = false := frozen_of_heap x2
        have f1 : (wc.setCell ⟨T, 0, none⟩ (.int .i64 xd)).frozen? ⟨w.heap.size, 1, none⟩ = false := frozen_of_heap x2
        have u0 : (wc.setCell ⟨T, 0, none⟩ (.int .i64 xd)).cell? ⟨T, 0, none⟩ = some (.int .i64 xd) := by rw [cell_of_heap T2]; rfl
        have u1 : (wc.setCell ⟨T, 0, none⟩ (.int .i64 xd)).cell? ⟨T, 1, none⟩ = some (.slice (some ⟨g, 0, none⟩) 24 d) := by rw [cell_of_heap T2]; rfl
        go_wp2
        refine bodyPost_ret (v := .tuple #[.agg #[.int .i64 xd, .slice (some ⟨g, 0, none⟩) 24 d], .bool true]) (by simp [results, Tryz.results42, go_sem, m0, m1]) rfl ?_
        refine ⟨g, d, ?_, ?_, ?_, hd⟩
        · rw [HE1.out, HE2.out]; rfl
        · rw [HE1.out]
          exact own_base (own_set_far (own_set_far own2 ⟨w.heap.size, 0, none⟩ (.int .i64 xd) x0w) ⟨w.heap.size, 1, none⟩ (.slice (some ⟨g, 0, none⟩) 24 d) x0w) B0.size
        · exact (B2.setCell (p := ⟨w.heap.size, 0, none⟩) (Nat.le_refl _) _).setCell (p := ⟨w.heap.size, 1, none⟩) (Nat.le_refl _) _
      · obtain ⟨e1, e2⟩ := stepR_dec (x := ⟨1, r, xc, xd⟩) rfl rfl hv hv9
        have HE1 := Lib.hid e1
        have HE2 := Lib.hid e2
        have wv : IntKind.i64.wrap (v - 1) = v - 1 := IntWalk.i64_in _ (by omega)
        obtain ⟨W2, HW2, own2, B2, x2, T2⟩ : ∃ W2, Hid (W2 = wc.setCell ⟨g, r, none⟩ (.int .i64 (v - 1))) ∧ W2.ownsRow w0.heap.size 2 1 (.slice (some ⟨g, 0, none⟩) 24 d) 24 ((cs.set r (v - 1)).map (.int .i64)) ∧ Below w.heap.size w W2 ∧ W2.heap[w.heap.size]? = some (.cells #[.int .i64 0, .slice none 0 0] 43 (0, 0)) ∧ W2.heap[T]? = some (.cells #[.int .i64 xc, .slice (some ⟨g, 0, none⟩) 24 d] 43 (0, 0)) := by
          refine ⟨_, rfl, ?_, ?_, ?_, ?_⟩
          · have := (own.stored r (.int .i64 (v - 1))).1; rw [List.map_set]; exact this
          · exact Bc.setCell (p := ⟨g, r, none⟩) (by dsimp only; omega) _
          · exact heap_set_other x0c _ (by dsimp only; omega) _
          · exact heap_set_other hT _ (by dsimp only; exact hTg) _
        clear own bc e1 e2 x0c y0c hT
        have HW2e := HW2.out
        clear HW2
        subst HW2e
        have m0 : (wc.setCell ⟨g, r, none⟩ (.int .i64 (v - 1))).cell? ⟨w.heap.size, 0, none⟩ = some (.int .i64 0) := by rw [cell_of_heap x2]; rfl
        have m1 : (wc.setCell ⟨g, r, none⟩ (.int .i64 (v - 1))).cell? ⟨w.heap.size, 1, none⟩ = some (.slice none 0 0) := by rw [cell_of_heap x2]; rfl
        have f0 : (wc.setCell ⟨g, r, none⟩ (.int .i64 (v - 1))).frozen? ⟨w.heap.size, 0, none⟩ = false := frozen_of_heap x2
        have f1 : (wc.setCell ⟨g, r, none⟩ (.int .i64 (v - 1))).frozen? ⟨w.heap.size, 1, none⟩ = false := frozen_of_heap x2
        have u0 : (wc.setCell ⟨g, r, none⟩ (.int .i64 (v - 1))).cell? ⟨T, 0, none⟩ = some (.int .i64 xc) := by rw [cell_of_heap T2]; rfl
        have u1 : (wc.setCell ⟨g, r, none⟩ (.int .i64 (v - 1))).cell? ⟨T, 1, none⟩ = some (.slice (some ⟨g, 0, none⟩) 24 d) := by rw [cell_of_heap T2]; rfl
        go_wp2
        refine bodyPost_ret (v := .tuple #[.agg #[.int .i64 xc, .slice (some ⟨g, 0, none⟩) 24 d], .bool true]) (by simp [results, Tryz.results42, go_sem, m0, m1]) rfl ?_
        refine ⟨g, d, ?_, ?_, ?_, hd⟩
        · rw [HE1.out, HE2.out]; rfl
        · rw [HE1.out]
          exact own_base (own_set_far (own_set_far own2 ⟨w.heap.size, 0, none⟩ (.int .i64 xc) x0w) ⟨w.heap.size, 1, none⟩ (.slice (some ⟨g, 0, none⟩) 24 d) x0w) B0.size
        · exact (B2.setCell (p := ⟨w.heap.size, 0, none⟩) (Nat.le_refl _) _).setCell (p := ⟨w.heap.size, 1, none⟩) (Nat.le_refl _) _
end Go.Proofs.YtjggkgdojhlhpaaGreat

/- The run of a register program, by the reference. -/
namespace Go.Proofs.YtjggkgdojhlhpaaGreat
open Go.RowKit
set_option linter.all false

/-- Contents of a store. -/
def OkC (cs : List Int) : Prop := cs.length = 24 ∧ ∀ v ∈ cs, 0 ≤ v ∧ v ≤ 1000000
theorem OkC.at {cs : List Int} (h : OkC cs) {r : Nat} (hr : r < 24) : ∃ v, Hid (cs[r]? = some v) ∧ 0 ≤ v ∧ v ≤ 1000000 :=
  ⟨_, List.getElem?_eq_getElem (by have := h.1; omega), h.2 _ (List.getElem_mem _)⟩
/-- Instructions of a valid program. -/
def OkP (n : Nat) (xs : List R4) : Prop := xs.length = n ∧ ∀ x ∈ xs, (0 ≤ x.b ∧ x.b ≤ 23) ∧ (x.a = 0 ∨ x.a = 1) ∧ (0 ≤ x.c ∧ x.c ≤ n) ∧ (0 ≤ x.d ∧ x.d ≤ n)
theorem OkP.at {n : Nat} {xs : List R4} (h : OkP n xs) {i : Nat} (hi : i < n) : ∃ x r, Hid (xs[i]? = some x) ∧ x.b = ((r : Nat) : Int) ∧ r < 24 ∧ (x.a = 0 ∨ x.a = 1) ∧ (0 ≤ x.c ∧ x.c ≤ n) ∧ (0 ≤ x.d ∧ x.d ≤ n) := by
  have hl := h.1
  obtain ⟨h1, h2, h3, h4⟩ := h.2 _ (List.getElem_mem (show i < xs.length by omega))
  exact ⟨_, (xs[i]'(by omega)).b.toNat, List.getElem?_eq_getElem (by omega), by omega, by omega, h2, h3, h4⟩
theorem set_okC {cs : List Int} (h : OkC cs) (r : Nat) {v : Int} (hv : 0 ≤ v ∧ v ≤ 1000000) : OkC (cs.set r v) := by
  refine ⟨by rw [List.length_set]; exact h.1, fun y hy => ?_⟩
  rcases List.mem_or_eq_of_mem_set hy with h1 | h1
  · exact h.2 y h1
  · subst h1; exact hv
theorem step_ok {n : Nat} {x : R4} {cs : List Int} {r : Nat} {v : Int} (hc : OkC cs) (hb : x.b = ((r : Nat) : Int)) (hk : x.a = 0 ∨ x.a = 1) (h1 : 0 ≤ x.c ∧ x.c ≤ n) (h2 : 0 ≤ x.d ∧ x.d ≤ n) (hv : cs[r]? = some v) (hv0 : 0 ≤ v ∧ v ≤ 1000000) (ho : overR x cs = false) :
    OkC (stepR x cs).2 ∧ ∃ j : Nat, (stepR x cs).1 = (j : Int) ∧ j ≤ n := by
  rcases hk with ha | ha
  · obtain ⟨e1, e2⟩ := stepR_inc ha hb hv
    rw [e2] at ho
    have : ¬ 1000000 ≤ v := by simpa using ho
    rw [e1]
    exact ⟨set_okC hc r (by omega), x.c.toNat, by dsimp only; omega, by omega⟩
  · by_cases h0 : v = 0
    · subst h0
      obtain ⟨e1, _⟩ := stepR_zero ha hb hv
      rw [e1]
      exact ⟨hc, x.d.toNat, by dsimp only; omega, by omega⟩
    · obtain ⟨e1, _⟩ := stepR_dec ha hb hv h0
      rw [e1]
      exact ⟨set_okC hc r (by omega), x.c.toNat, by dsimp only; omega, by omega⟩
theorem runR_zero (p : List R4) (n i : Nat) (cs : List Int) : runR p 0 n i cs = some (n, i, cs) := rfl
theorem runR_end {p : List R4} {n i : Nat} {cs : List Int} (h : p.length = i) (b : Nat) : runR p b n i cs = some (n, i, cs) := by
  cases b with
  | zero => rfl
  | succ b => rw [runR, List.getElem?_eq_none (by omega)]
theorem runR_over {p : List R4} {n i : Nat} {cs : List Int} {x : R4} (h : p[i]? = some x) (ho : overR x cs = true) (b : Nat) : runR p (b + 1) n i cs = none := by
  rw [runR, h]; simp [ho]
theorem runR_step {p : List R4} {n i j : Nat} {cs : List Int} {x : R4} (h : p[i]? = some x) (ho : overR x cs = false) (hj : (stepR x cs).1 = (j : Int)) (b : Nat) : runR p (b + 1) n i cs = runR p b (n + 1) j (stepR x cs).2 := by
  rw [runR, h]; simp [ho, hj]

/-- What the reference's run returns. -/
def RunOut (B n : Nat) (R : Option (Nat × Nat × List Int)) (e : Ending) (w : World) : Prop :=
  match R with
  | none => e = .returned (.tuple #[.agg #[.int .i64 0, .slice none 0 0], .int .i64 0, .bool false, .bool false])
  | some (m, i, cs) => ∃ g d, e = .returned (.tuple #[.agg #[.int .i64 i, .slice (some ⟨g, 0, none⟩) 24 d], .int .i64 m, .bool (decide (i = n)), .bool true]) ∧ w.ownsRow B 2 1 (.slice (some ⟨g, 0, none⟩) 24 d) 24 (cs.map (.int .i64)) ∧ 24 ≤ d

set_option maxRecDepth 100000 in
set_option maxHeartbeats 1000000 in
theorem l07Run_any (A : Option Addr) (n c : Nat) (xs : List R4) (gb cb : Nat) (cs : List Int) (bd : Nat) (w : World)
    (hs : Args 4 w A n (rows R4.vs xs)) (hp : OkP n xs) (hn : n ≤ 1048576) (hcs : OkC cs) (hbd : bd ≤ 1048576) (hsc : Sl w gb 0 (cs.map (.int .i64))) :
    Calls Tryz.prog 24 #[.slice A n c, .agg #[.int .i64 0, .slice (some ⟨gb, 0, none⟩) 24 cb], .int .i64 bd] w fun e w' => RunOut w.heap.size n (runR xs bd 0 0 cs) e w' ∧ Below w.heap.size w w' := by
  have HP := Lib.hid hp; clear hp
  have HCS := Lib.hid hcs; clear hcs
  obtain ⟨w0, HW0, B0, x0, y0⟩ := al2 w (.cells #[.int .i64 0, .slice (some ⟨gb, 0, none⟩) 24 cb] 43) (.cells #[.int .i64 0, .slice none 0 0] 43)
  have sc0 := hsc.below' B0
  have p0 : w0.cell? ⟨w.heap.size, 0, none⟩ = some (.int .i64 0) := by rw [cell_of_heap x0]; rfl
  have p1 : w0.cell? ⟨w.heap.size, 1, none⟩ = some (.slice (some ⟨gb, 0, none⟩) 24 cb) := by rw [cell_of_heap x0]; rfl
  have x0w := heap_lt x0
  have y0w := heap_lt y0
  go_enter Tryz.func24, Tryz.ntmps24
  go_upto_region 1 with fail
  rw [← HW0.out]
  go_cut [10] (fun s7 wx => ∃ T g d : Nat, s7 = .pointer (some ⟨T, 0, none⟩) ∧ wx.heap[T]? = some (.cells #[.int .i64 0, .slice (some ⟨g, 0, none⟩) 24 d] 43 (0, 0)) ∧ wx.ownsRow w0.heap.size 2 1 (.slice (some ⟨g, 0, none⟩) 24 d) 24 (cs.map (.int .i64)) ∧ Below w0.heap.size w0 wx ∧ w0.heap.size ≤ T ∧ T ≠ g ∧ 24 ≤ d)
  case first =>
    have sc1 : Sl (w0.alloc (.cells #[.int .i64 0, .slice none 0 0] 43)) gb 0 (cs.map (.int .i64)) := sc0.below' (laid_below _ _)
    have n0 : w.heap.size ≠ w0.heap.size := by omega
    have k0 := cell_step p0 (laid_below w0 (.cells #[.int .i64 0, .slice none 0 0] 43))
    have k1 := cell_step p1 (laid_below w0 (.cells #[.int .i64 0, .slice none 0 0] 43))
    go_region_held3 (fun W => W.cell? ⟨w.heap.size, 0, none⟩ = some (.int .i64 0) ∧ W.cell? ⟨w.heap.size, 1, none⟩ = some (.slice (some ⟨gb, 0, none⟩) 24 cb)) (first | exact ⟨p0, p1⟩ | exact ⟨k0, k1⟩ | exact ⟨r0, r1⟩ | exact ⟨cell_set_far (cell_set_far r0 n0) n0, cell_set_far (cell_set_far r1 n0) n0⟩ | go_keep)
      (first
        | (go_at_call 40; refine (l00OwnR_any gb 0 24 cb cs _ (by exact sc1) HCS.out.1 (by omega)).mono ?_; rintro e w3 ⟨g, d, rfl, own3, b3, hd3⟩; have b3' : Below (w0.alloc (.cells #[.int .i64 0, .slice none 0 0] 43)).heap.size (w0.alloc (.cells #[.int .i64 0, .slice none 0 0] 43)) w3 := ⟨b3.os, b3.tape, b3.output, b3.size, b3.block⟩; have b4 : Below w0.heap.size w0 w3 := below_step (laid_below _ _) b3'; have x3 : w3.heap[w0.heap.size]? = some (.cells #[.int .i64 0, .slice none 0 0] 43 (0, 0)) := (b3'.block _ (heap_lt (heap_alloc_new w0 _))).trans (heap_alloc_new w0 _); have r0 : w3.cell? ⟨w.heap.size, 0, none⟩ = some (.int .i64 0) := cell_step p0 b4; have r1 : w3.cell? ⟨w.heap.size, 1, none⟩ = some (.slice (some ⟨gb, 0, none⟩) 24 cb) := cell_step p1 b4; have e0 : w3.cell? ⟨w0.heap.size, 0, none⟩ = some (.int .i64 0) := (by rw [cell_of_heap x3]; rfl); have e1 : w3.cell? ⟨w0.heap.size, 1, none⟩ = some (.slice none 0 0) := (by rw [cell_of_heap x3]; rfl); have f0 : w3.frozen? ⟨w0.heap.size, 0, none⟩ = false := frozen_of_heap x3; have f1 : w3.frozen? ⟨w0.heap.size, 1, none⟩ = false := frozen_of_heap x3)
        | (go_at_call 40; refine (l00OwnR_any gb 0 24 cb cs _ (by exact sc0) HCS.out.1 (by omega)).mono ?_; rintro e w3 ⟨g, d, rfl, own3, b3, hd3⟩; have b4 : Below w0.heap.size w0 w3 := ⟨b3.os, b3.tape, b3.output, b3.size, b3.block⟩; have x3 := True.intro; have r0 : w3.cell? ⟨w.heap.size, 0, none⟩ = some (.int .i64 0) := cell_step p0 b4; have r1 : w3.cell? ⟨w.heap.size, 1, none⟩ = some (.slice (some ⟨gb, 0, none⟩) 24 cb) := cell_step p1 b4))
    all_goals (go_wp2_with fail; go_meet)
    all_goals have hlA : w0.heap.size < (w0.alloc (.cells #[.int .i64 0, .slice none 0 0] 43)).heap.size := heap_lt (heap_alloc_new w0 _)
    · exact ⟨w3.heap.size, g, d, rfl, heap_alloc_new w3 _, own_below' own3 (laid_below _ _), below_step b4 (laid_below _ _), b4.size, (Nat.ne_of_lt (own3.lt g rfl).2).symm, hd3⟩
    · exact ⟨w0.heap.size, g, d, rfl, heap_set (heap_set x3 _) _, own_base (own_set_far (own_set_far own3 ⟨w0.heap.size, 0, none⟩ (.int .i64 0) hlA) ⟨w0.heap.size, 1, none⟩ (.slice (some ⟨g, 0, none⟩) 24 d) hlA) (Nat.le_of_lt hlA), (b4.setCell (p := ⟨w0.heap.size, 0, none⟩) (Nat.le_refl _) _).setCell (p := ⟨w0.heap.size, 1, none⟩) (Nat.le_refl _) _, Nat.le_refl _, Nat.ne_of_lt (Nat.lt_of_lt_of_le hlA (own3.lt g rfl).1), hd3⟩
  case rest =>
    obtain ⟨T, g0, d0, rfl, hT0, own0, bc, hTl, hTg0, hd0⟩ := hcut
    clear sc0 p0 p1 x0 hsc
    go_wp2_with fail
    go_loopw [11] (fun iv wr => ∃ (k f i g d : Nat) (ds : List Int), k + f = bd ∧ iv = .int .i64 k ∧ wr.heap[T]? = some (.cells #[.int .i64 i, .slice (some ⟨g, 0, none⟩) 24 d] 43 (0, 0)) ∧ wr.ownsRow w0.heap.size 2 1 (.slice (some ⟨g, 0, none⟩) 24 d) 24 (ds.map (.int .i64)) ∧ Below w0.heap.size w0 wr ∧ T ≠ g ∧ 24 ≤ d ∧ i ≤ n ∧ Hid (OkC ds) ∧ Hid (runR xs bd 0 0 cs = runR xs f k i ds)) (fun iv _ => bd - (intOf iv).toNat)
    case atStart => exact ⟨0, bd, 0, g0, d0, cs, Nat.zero_add _, rfl, hT0, own0, bc, hTg0, hd0, Nat.zero_le _, HCS, rfl⟩
    case round =>
      clear hT0 own0 hTg0 hd0 bc
      obtain ⟨k, f, i, g, d, ds, hkf, rfl, hT, own, br, hTg, hd, hin, HD, HR⟩ := hrel
      have Br := below_step B0 br
      have yr := (br.block _ (heap_lt y0)).trans y0
      have hTr := heap_lt hT
      have hsr := hs.below Br
      have hgl := (own.lt g rfl).1
      have t0 : wr.cell? ⟨T, 0, none⟩ = some (.int .i64 i) := by rw [cell_of_heap hT]; rfl
      have t1 : wr.cell? ⟨T, 1, none⟩ = some (.slice (some ⟨g, 0, none⟩) 24 d) := by rw [cell_of_heap hT]; rfl
      have m0 : wr.cell? ⟨w.heap.size + 1, 0, none⟩ = some (.int .i64 0) := by rw [cell_of_heap yr]; rfl
      have m1 : wr.cell? ⟨w.heap.size + 1, 1, none⟩ = some (.slice none 0 0) := by rw [cell_of_heap yr]; rfl
      have f0 : wr.frozen? ⟨w.heap.size + 1, 0, none⟩ = false := frozen_of_heap yr
      have f1 : wr.frozen? ⟨w.heap.size + 1, 1, none⟩ = false := frozen_of_heap yr
      have nT : T ≠ w.heap.size + 1 := by omega
      have hfin : ∀ (v : Value), (((wr.setCell ⟨w.heap.size + 1, 0, none⟩ (.int .i64 i)).setCell ⟨w.heap.size + 1, 1, none⟩ (.slice (some ⟨g, 0, none⟩) 24 d))).ownsRow w.heap.size 2 1 (.slice (some ⟨g, 0, none⟩) 24 d) 24 (ds.map (.int .i64)) ∧ Below w.heap.size w ((wr.setCell ⟨w.heap.size + 1, 0, none⟩ (.int .i64 i)).setCell ⟨w.heap.size + 1, 1, none⟩ (.slice (some ⟨g, 0, none⟩) 24 d)) := fun _ =>
        ⟨own_base (own_set_far (own_set_far own ⟨w.heap.size + 1, 0, none⟩ (.int .i64 i) y0w) ⟨w.heap.size + 1, 1, none⟩ (.slice (some ⟨g, 0, none⟩) 24 d) y0w) B0.size, (Br.setCell (p := ⟨w.heap.size + 1, 0, none⟩) (Nat.le_succ _) _).setCell (p := ⟨w.heap.size + 1, 1, none⟩) (Nat.le_succ _) _⟩
      have HFIN := Lib.hid hfin; clear hfin
      cases f with
      | zero =>
        obtain rfl : k = bd := by omega
        have HF : Hid (runR xs k 0 0 cs = some (k, i, ds)) := HR.out
        go_wp2_with fail
        go_region_held3 (fun W => W.cell? ⟨T, 0, none⟩ = some (.int .i64 i) ∧ W.cell? ⟨T, 1, none⟩ = some (.slice (some ⟨g, 0, none⟩) 24 d)) (first | exact ⟨t0, t1⟩ | exact ⟨cell_set_far (cell_set_far t0 nT) nT, cell_set_far (cell_set_far t1 nT) nT⟩ | go_keep)
          ((go_at_call 41; refine (l07Halts_is _ n c T i _ _ rfl (by exact t0)).mono ?_; rintro e w' ⟨rfl, rfl⟩))
        all_goals
          go_wp2_with fail
          refine bodyPost_ret (v := .tuple #[.agg #[.int .i64 i, .slice (some ⟨g, 0, none⟩) 24 d], .int .i64 k, .bool (decide (i = n)), .bool true]) (by simp [results, Tryz.results24, go_sem, m0, m1]) rfl ?_
          refine ⟨?_, (HFIN.out undef).2.drew⟩
          rw [HF.out]
          exact ⟨g, d, rfl, (HFIN.out undef).1, hd⟩
      | succ f =>
        have hkb : k < bd := by omega
        by_cases hi : i = n
        · have HF : Hid (runR xs bd 0 0 cs = some (k, i, ds)) := HR.out.trans (runR_end (by rw [HP.out.1, hi]) _)
          have HI := Lib.hid hi
          clear hi
          go_wp2_with fail
          refine (l07Halts_is _ n c T i true _ (decide_eq_true HI.out) t0).mono ?_
          rintro e w' ⟨rfl, rfl⟩
          go_wp2_with fail
          refine bodyPost_ret (v := .tuple #[.agg #[.int .i64 i, .slice (some ⟨g, 0, none⟩) 24 d], .int .i64 k, .bool true, .bool true]) (by simp [results, Tryz.results24, go_sem, m0, m1]) rfl ?_
          refine ⟨?_, (HFIN.out undef).2⟩
          rw [HF.out]
          exact ⟨g, d, by rw [decide_eq_true HI.out], (HFIN.out undef).1, hd⟩
        · obtain ⟨x, r, HX, hr, hr2, hk, hxc, hxd⟩ := HP.out.at (show i < n by omega)
          obtain ⟨v, HV, hv0⟩ := HD.out.at hr2
          obtain ⟨b, off, rfl, hsb⟩ := hsr.sl (show 0 < n by omega)
          have HST := Lib.hid (fun W (hW : Below wr.heap.size wr W) => l07Step_any b off n c xs x i r T g d ds v W (hsb.below' hW) HX.out (by omega) hn hr hr2 HD.out.1 HV.out hv0 hk (cell_step t0 hW) (cell_step t1 hW) ((sl_of_own own).below' hW))
          go_wp2_with fail
          refine (l07Halts_is _ n c T i false _ (decide_eq_false hi) t0).mono ?_
          rintro e w' ⟨rfl, rfl⟩
          go_wp2_with fail
          refine (HST.out _ (Below.refl _ _)).mono ?_
          rintro e w1 ⟨g2, d2, rfl, own2, b2, hd2⟩
          have hgr := (own2.lt g2 rfl).1
          have hsz := b2.size
          obtain ⟨q, hq⟩ : ∃ q, q = !overR x ds := ⟨_, rfl⟩
          rw [← hq]
          rcases Bool.eq_false_or_eq_true (overR x ds) with ho | ho
          · rw [ho] at hq
            subst hq
            have HF : Hid (runR xs bd 0 0 cs = none) := HR.out.trans (runR_over HX.out ho _)
            clear ho
            obtain ⟨z, hz⟩ : ∃ z, z = (stepR x ds).1 := ⟨_, rfl⟩
            rw [← hz]
            clear hz
            have bl := laid_below w1 (.cells #[.int .i64 z, .slice (some ⟨g2, 0, none⟩) 24 d2] 43)
            have y3 := (bl.block _ (heap_lt ((b2.block _ (heap_lt yr)).trans yr))).trans ((b2.block _ (heap_lt yr)).trans yr)
            have B3 := below_step (below_step Br b2) bl
            have m0' := cell_step (cell_step m0 b2) bl
            have m1' := cell_step (cell_step m1 b2) bl
            have f0' : (w1.alloc (.cells #[.int .i64 z, .slice (some ⟨g2, 0, none⟩) 24 d2] 43)).frozen? ⟨w.heap.size + 1, 0, none⟩ = false := frozen_of_heap y3
            have f1' : (w1.alloc (.cells #[.int .i64 z, .slice (some ⟨g2, 0, none⟩) 24 d2] 43)).frozen? ⟨w.heap.size + 1, 1, none⟩ = false := frozen_of_heap y3
            go_wp2_with fail
            refine bodyPost_ret (v := .tuple #[.agg #[.int .i64 0, .slice none 0 0], .int .i64 0, .bool false, .bool false]) (by simp [results, Tryz.results24, go_sem, m0', m1']) rfl ?_
            refine ⟨by rw [HF.out]; rfl, ?_⟩
            first
              | exact (B3.setCell (p := ⟨w.heap.size + 1, 0, none⟩) (Nat.le_succ _) _).setCell (p := ⟨w.heap.size + 1, 1, none⟩) (Nat.le_succ _) _
              | exact B3
          · rw [ho] at hq
            subst hq
            obtain ⟨hok, j, hj, hjn⟩ := step_ok HD.out hr hk hxc hxd HV.out hv0 ho
            have HRN : Hid (runR xs bd 0 0 cs = runR xs f (k + 1) j (stepR x ds).2) := HR.out.trans (runR_step HX.out ho hj _)
            have HOK := Lib.hid hok
            rw [hj]
            obtain ⟨es, hes⟩ : ∃ es, es = (stepR x ds).2 := ⟨_, rfl⟩
            rw [← hes] at own2 HRN HOK
            clear hes ho hok hj
            have bl := laid_below w1 (.cells #[.int .i64 j, .slice (some ⟨g2, 0, none⟩) 24 d2] 43)
            have T3 := (bl.block _ (heap_lt ((b2.block _ (heap_lt hT)).trans hT))).trans ((b2.block _ (heap_lt hT)).trans hT)
            have B3 := below_step (below_step br b2) bl
            have t0' := cell_step (cell_step t0 b2) bl
            have t1' := cell_step (cell_step t1 b2) bl
            have f0' : (w1.alloc (.cells #[.int .i64 j, .slice (some ⟨g2, 0, none⟩) 24 d2] 43)).frozen? ⟨T, 0, none⟩ = false := frozen_of_heap T3
            have f1' : (w1.alloc (.cells #[.int .i64 j, .slice (some ⟨g2, 0, none⟩) 24 d2] 43)).frozen? ⟨T, 1, none⟩ = false := frozen_of_heap T3
            have own3 := own_below' own2 bl
            go_wp2_with fail
            go_roundw
            case rel => exact ⟨k + 1, f, j, g2, d2, es, by omega, by go_num, heap_set (heap_set T3 _) _, own_base (own_set_other (own_set_other own3 ⟨T, 0, none⟩ (.int .i64 j) (by dsimp only; omega)) ⟨T, 1, none⟩ (.slice (some ⟨g2, 0, none⟩) 24 d2) (by dsimp only; omega)) br.size, (B3.setCell (p := ⟨T, 0, none⟩) hTl _).setCell (p := ⟨T, 1, none⟩) hTl _, by omega, hd2, hjn, HOK, HRN⟩
            case measure => simp [intOf]; omega
end Go.Proofs.YtjggkgdojhlhpaaGreat

/- The first store, by the reference. -/
namespace Go.Proofs.YtjggkgdojhlhpaaGreat
open Go.RowKit
set_option linter.all false

theorem own_capR {w : World} {base : Nat} {e : TypeId} {size n c g : Nat} {xs : List Value} (h : w.ownsRow base e size (.slice (some ⟨g, 0, none⟩) n c) n xs) : n ≤ c := by
  rcases h.2 with ⟨h0, _⟩ | ⟨g', cap, cur, h0, _, _, h1, _⟩
  · cases h0
  · injection h0 with _ _ h0; subst h0; exact h1
/-- How far a slice in a cell is from 24. -/
def left24 (w : World) (p : Addr) : Nat := match w.cell? p with | some (.slice _ n _) => 24 - n | _ => 0
theorem left24_is {w : World} {p : Addr} {A : Option Addr} {n c : Nat} (h : w.cell? p = some (.slice A n c)) : left24 w p = 24 - n := by unfold left24; rw [h]

set_option maxRecDepth 100000 in
set_option maxHeartbeats 1000000 in
theorem l07Start_any (b off n c : Nat) (xs : List Int) (w : World) (hs : Sl w b off (xs.map (.int .i64))) (hl : xs.length = n) (hn : n ≤ 24) :
    Calls Tryz.prog 25 #[.slice (some ⟨b, off, none⟩) n c] w fun e w' => ∃ g d, e = .returned (.agg #[.int .i64 0, .slice (some ⟨g, 0, none⟩) 24 d]) ∧ w'.ownsRow w.heap.size 2 1 (.slice (some ⟨g, 0, none⟩) 24 d) 24 ((startR xs).map (.int .i64)) ∧ Below w.heap.size w w' ∧ 24 ≤ d := by
  have HL := Lib.hid hl; clear hl
  obtain ⟨w0, HW0, B0, x0⟩ := al1 w (.cells #[.int .i64 0, .slice none 0 0] 43)
  have x0w := heap_lt x0
  go_enter Tryz.func25, Tryz.ntmps25
  go_wp2_with fail
  rw [← HW0.out]
  refine (l00OwnR_any b off n c xs _ (hs.below' B0) HL.out (by omega)).mono ?_
  rintro e w1 ⟨g0, d0, rfl, own0, b1, hd0⟩
  obtain ⟨w2, HW2, b2, T2⟩ := al1 w1 (.cells #[.int .i64 0, .slice (some ⟨g0, 0, none⟩) n d0] 43)
  have own1 := own_below' own0 b2
  have B2 := below_step b1 b2
  obtain ⟨T, hT⟩ : ∃ T : Nat, T = w1.heap.size := ⟨_, rfl⟩
  have hTg0 : T ≠ g0 := by have := (own0.lt g0 rfl).2; omega
  have hTl : w0.heap.size ≤ T := by have := b1.size; omega
  have HT := Lib.hid hT; clear hT
  rw [← HT.out] at T2
  go_wp2_with fail
  rw [← HW2.out, ← HT.out]
  go_loopw [] (fun wr => ∃ (m g d : Nat), n ≤ m ∧ m ≤ 24 ∧ wr.heap[T]? = some (.cells #[.int .i64 0, .slice (some ⟨g, 0, none⟩) m d] 43 (0, 0)) ∧ wr.ownsRow w0.heap.size 2 1 (.slice (some ⟨g, 0, none⟩) m d) m ((xs ++ List.replicate (m - n) 0).map (.int .i64)) ∧ Below w0.heap.size w0 wr ∧ T ≠ g ∧ m ≤ d) (fun wr => left24 wr ⟨T, 1, none⟩)
  case atStart => exact ⟨n, g0, d0, Nat.le_refl _, hn, T2, by rw [Nat.sub_self, List.replicate_zero, List.append_nil]; exact own1, B2, hTg0, hd0⟩
  case round =>
    clear T2 own1 own0 b1 b2 B2 hTg0 hd0
    obtain ⟨m, g, d, hm1, hm2, hT, own, br, hTg, hd⟩ := hrel
    have t0 : wr.cell? ⟨T, 0, none⟩ = some (.int .i64 0) := by rw [cell_of_heap hT]; rfl
    have t1 : wr.cell? ⟨T, 1, none⟩ = some (.slice (some ⟨g, 0, none⟩) m d) := by rw [cell_of_heap hT]; rfl
    by_cases hlt : m < 24
    · have hT1 := heap_lt hT
      have hne : some T ≠ (Value.slice (some ⟨g, 0, none⟩) m d).ownBlock := by intro e; cases e; exact hTg rfl
      go_wp2_with (at_builtin; refine wpList_appg rfl _ _ _ rfl Tryz.underlying23 infoInt64S rfl (by omega) w0.heap.size wr own br.size rfl 1 #[.int .i64 0] rfl (laid_below _ _) (heap_alloc_new _ _) rfl (by simp [Value.oneCell']) (by omega) (by unfold maxLen; omega) (by omega) ?_; intro g2 d2 w3 own3 hg3; have T3 := (hg3.block T hT1 hne).trans hT; have b3 := Below.grown br hg3 br.size (fun j hj => (own.lt j hj).1); have e0 : w3.cell? ⟨T, 1, none⟩ = some (.slice (some ⟨g, 0, none⟩) m d) := (by rw [cell_of_heap T3]; rfl); have f0 : w3.frozen? ⟨T, 1, none⟩ = false := frozen_of_heap T3)
      have hne3 := own_ne_block own3 T3 (by decide)
      have hTg2 : T ≠ g2 := fun e => hne3 (by subst e; rfl)
      have hd2 := own_capR own3
      have own4 : w3.ownsRow w0.heap.size 2 1 (.slice (some ⟨g2, 0, none⟩) (m + 1) d2) (m + 1) ((xs ++ List.replicate (m + 1 - n) 0).map (.int .i64)) := by
        rw [show m + 1 - n = (m - n) + 1 by omega, List.replicate_succ', ← List.append_assoc, List.map_append]
        exact own3
      have e1 := heap_set (i := 1) T3 (.slice (some ⟨g2, 0, none⟩) (m + 1) d2)
      refine ⟨⟨m + 1, g2, d2, by omega, by omega, e1, own_set_other own4 ⟨T, 1, none⟩ _ (fun e => hTg2 e.symm), b3.setCell (p := ⟨T, 1, none⟩) hTl _, hTg2, hd2⟩, ?_⟩
      rw [left24_is t1, left24_is (A := some ⟨g2, 0, none⟩) (n := m + 1) (c := d2) (by rw [cell_of_heap e1]; rfl)]
      omega
    · obtain rfl : m = 24 := by omega
      have yr := (br.block _ x0w).trans x0
      have Br := below_step B0 br
      have m0 : wr.cell? ⟨w.heap.size, 0, none⟩ = some (.int .i64 0) := by rw [cell_of_heap yr]; rfl
      have m1 : wr.cell? ⟨w.heap.size, 1, none⟩ = some (.slice none 0 0) := by rw [cell_of_heap yr]; rfl
      have f0 : wr.frozen? ⟨w.heap.size, 0, none⟩ = false := frozen_of_heap yr
      have f1 : wr.frozen? ⟨w.heap.size, 1, none⟩ = false := frozen_of_heap yr
      go_wp2_with fail
      refine bodyPost_ret (v := .agg #[.int .i64 0, .slice (some ⟨g, 0, none⟩) 24 d]) (by simp [results, Tryz.results25, go_sem, m0, m1]) rfl ?_
      refine ⟨g, d, rfl, ?_, (Br.setCell (p := ⟨w.heap.size, 0, none⟩) (Nat.le_refl _) _).setCell (p := ⟨w.heap.size, 1, none⟩) (Nat.le_refl _) _, hd⟩
      unfold startR
      rw [HL.out]
      exact own_base (own_set_far (own_set_far own ⟨w.heap.size, 0, none⟩ (.int .i64 0) x0w) ⟨w.heap.size, 1, none⟩ (.slice (some ⟨g, 0, none⟩) 24 d) x0w) B0.size
end Go.Proofs.YtjggkgdojhlhpaaGreat

/- RunFuncProgram of the reference. -/
namespace Go.Proofs.YtjggkgdojhlhpaaGreat
open Go.RowKit
set_option linter.all false

/-- What RunFuncProgram gives. -/
def runFuncProgram (f : List R3) (args : List Int) (bd : Int) : Int × Int × Int :=
  if validF f then (if argsOk f args bd then (if (progOfFunc f).2 = 0 then funcRun (progOfFunc f).1 args bd else (0, 0, (progOfFunc f).2)) else (0, 0, 2)) else (0, 0, 1)
theorem okP_of {f : List R3} (h : (progOfFunc f).2 = 0) : OkP (progOfFunc f).1.length (progOfFunc f).1 := by
  obtain ⟨_, _, hr, hw⟩ := progOfFunc_ok h
  exact ⟨rfl, fun x hx => ⟨(hr x hx).1, (hw x hx).2.2, (hw x hx).1, (hw x hx).2.1⟩⟩
theorem argsOk_parts {f : List R3} {args : List Int} {bd : Int} (h : argsOk f args bd = true) : (1 ≤ bd ∧ bd ≤ 20000) ∧ args.length = ar0 f ∧ args.all (fun x => inB x 0 1000000) = true := by
  unfold argsOk at h
  obtain ⟨h1, h2⟩ := Bool.and_eq_true_iff.1 h
  obtain ⟨h2, h3⟩ := Bool.and_eq_true_iff.1 h2
  have := of_decide_eq_true h2
  exact ⟨inB_both h1, by omega, h3⟩
theorem startR_ok {args : List Int} (hl : args.length ≤ 24) (h : args.all (fun x => inB x 0 1000000) = true) : OkC (startR args) := by
  refine ⟨by unfold startR; simp; omega, fun v hv => ?_⟩
  unfold startR at hv
  rcases List.mem_append.1 hv with hv | hv
  · exact inB_both (List.all_eq_true.1 h v hv)
  · have := List.eq_of_mem_replicate hv; omega

theorem l05BudgetR_is (n : Int) (v : Bool) (hv : inB n 1 20000 = v) (w : World) : Calls Tryz.prog 21 #[.int .i64 n] w fun e w' => e = .returned (.bool v) ∧ w = w' := by
  have HV := Lib.hid hv; clear hv
  go_enter Tryz.func21, Tryz.ntmps21
  go_wp2_with fail
  refine (l00In_is n 1 20000 v HV.out _).mono ?_
  rintro e w' ⟨rfl, rfl⟩
  go_wp2_with fail
  go_ret
  exact ⟨rfl, rfl⟩

set_option maxRecDepth 100000 in
theorem l07Counts_is (b off n c : Nat) (xs : List Int) (v : Bool) (hv : xs.all (fun x => inB x 0 1000000) = v) (w : World) (hs : Sl w b off (xs.map (.int .i64))) (hl : xs.length = n) (hn : n ≤ 4194304) :
    Calls Tryz.prog 22 #[.slice (some ⟨b, off, none⟩) n c] w fun e w' => e = .returned (.bool v) ∧ w = w' := by
  subst hv
  have HL := Lib.hid hl; clear hl
  go_enter Tryz.func22, Tryz.ntmps22
  go_wp2_with fail
  go_loop [3] (fun i => ∃ k : Nat, k ≤ n ∧ i = .int .i64 k ∧ Hid (∀ j x, j < k → xs[j]? = some x → inB x 0 1000000 = true)) (fun i => n - (intOf i).toNat)
  case atStart => exact ⟨0, Nat.zero_le _, rfl, by intro j x hj; omega⟩
  case round =>
    obtain ⟨k, hk, rfl, HR⟩ := hrel
    by_cases hlt : k < n
    · obtain ⟨y, HY, hy⟩ := map_at (Value.int .i64) xs (k := k) (by have := HL.out; omega)
      have hcb := hs.at hy
      clear hy
      rcases Bool.eq_false_or_eq_true (inB y 0 1000000) with hb | hb
      rotate_left
      · have HB := Lib.hid hb
        clear hb
        go_wp2_with (go_at_call 36; refine (l00In_is y _ _ _ HB.out _).mono ?_; rintro e w' ⟨rfl, rfl⟩)
        go_ret
        exact ⟨ret_bool (by rw [all_no (p := fun x => inB x 0 1000000) HY.out HB.out]), rfl⟩
      · have HB := Lib.hid hb
        clear hb
        go_wp2_with (go_at_call 36; refine (l00In_is y _ _ _ HB.out _).mono ?_; rintro e w' ⟨rfl, rfl⟩)
        go_round
        case rel => exact ⟨k + 1, by omega, by go_num, by
          intro j x hj hx
          by_cases ej : j = k
          · subst ej
            have h2 := HY.out
            rw [hx] at h2; injection h2 with h2; subst h2; exact HB.out
          · exact HR.out j x (by omega) hx⟩
        case measure => simp [intOf]; omega
    · have HE : Hid (xs.all (fun x => inB x 0 1000000) = true) := by
        have hl := HL.out
        unfold Hid
        rw [List.all_eq_true]
        intro x hx
        obtain ⟨j, hj⟩ := List.getElem?_of_mem hx
        exact HR.out j x (by have := (List.getElem?_eq_some_iff.1 hj).1; omega) hj
      go_wp2_with fail
      go_ret
      exact ⟨ret_bool (by rw [HE.out]), rfl⟩

/-- The code for arguments. -/
def askR (f : List R3) (args : List Int) (bd : Int) : Int := if validF f then (if argsOk f args bd then 0 else 2) else 1

set_option maxRecDepth 100000 in
set_option maxHeartbeats 1000000 in
theorem l17Ask_any (b off n c : Nat) (f : List R3) (b1 o1 n1 c1 : Nat) (x : List Int) (bd : Int) (w : World) (hs : Sl w b off (rows R3.vs f)) (hl : f.length = n) (hn : n ≤ 1048576) (hs1 : Sl w b1 o1 (x.map (.int .i64))) (hl1 : x.length = n1) (hn1 : n1 ≤ 1048576) :
    Calls Tryz.prog 11 #[.slice (some ⟨b, off, none⟩) n c, .slice (some ⟨b1, o1, none⟩) n1 c1, .int .i64 bd] w fun e w' => (∃ z : Int, Hid (z = askR f x bd) ∧ e = .returned (.int .i64 z)) ∧ Below w.heap.size w w' := by
  have HL := Lib.hid hl; have HL1 := Lib.hid hl1
  have ha : Args 3 w (some ⟨b, off, none⟩) n (rows R3.vs f) := Args.of_sl hs (by rw [rows_len R3.vs_len]; omega)
  clear hl hl1
  rcases Bool.eq_false_or_eq_true (validF f) with h1 | h1
  rotate_left
  · have HV := Lib.hid h1
    have HZ : Hid ((1 : Int) = askR f x bd) := by unfold Hid askR; rw [h1]; rfl
    clear h1
    go_enter Tryz.func11, Tryz.ntmps11
    go_wp2_with fail
    refine (l11Is_is _ n c f false HV.out _ ha hn).mono ?_
    rintro e w1 ⟨rfl, hb⟩
    go_wp2_with fail
    go_ret
    exact ⟨⟨1, HZ, rfl⟩, hb⟩
  obtain ⟨y, l, hf, -, hyb, ha4, -⟩ := validF_head h1
  have HV := Lib.hid h1; clear h1
  obtain ⟨na, hna⟩ : ∃ na, na = ar0 f := ⟨_, rfl⟩
  rw [← hna] at hyb ha4
  have HNA := Lib.hid hna; clear hna
  have h0 : f[0]? = some y := by rw [hf]; rfl
  have hn0 : 0 < n := by have := HL.out; rw [hf] at this; simp at this; omega
  have hq : w.cell? ⟨b, off + 1, none⟩ = some (.int .i64 na) := by
    have := (hs.rec3 h0).2.1
    rw [hyb] at this
    simpa using this
  clear hf h0
  have HS := Lib.hid (fun W (hW : Below w.heap.size w W) => hs.below' hW)
  have HS1 := Lib.hid (fun W (hW : Below w.heap.size w W) => hs1.below' hW)
  have hz2 : argsOk f x bd = false → Hid ((2 : Int) = askR f x bd) := by intro h; unfold Hid askR; rw [HV.out, h]; rfl
  have HZ2 := Lib.hid hz2; clear hz2
  rcases Bool.eq_false_or_eq_true (inB bd 1 20000) with h2 | h2
  rotate_left
  · have HB := Lib.hid h2
    have HZ := HZ2.out (by unfold argsOk; rw [h2]; rfl)
    clear h2
    go_enter Tryz.func11, Tryz.ntmps11
    go_wp2_with fail
    refine (l11Is_is _ n c f true HV.out _ ha hn).mono ?_
    rintro e w1 ⟨rfl, hb⟩
    go_wp2_with fail
    refine (l05BudgetR_is bd false HB.out _).mono ?_
    rintro e w' ⟨rfl, rfl⟩
    go_wp2_with fail
    go_ret
    exact ⟨⟨2, HZ, rfl⟩, hb⟩
  by_cases h3 : n1 = na
  rotate_left
  · have HB := Lib.hid h2
    have HZ := HZ2.out (by unfold argsOk; rw [h2, decide_eq_false (by rw [HL1.out, ← HNA.out]; omega)]; rfl)
    clear h2
    have h3' : ¬ (n1 : Int) = na := by omega
    go_enter Tryz.func11, Tryz.ntmps11
    go_wp2_with fail
    refine (l11Is_is _ n c f true HV.out _ ha hn).mono ?_
    rintro e w1 ⟨rfl, hb⟩
    have hq1 := cell_step hq hb
    go_wp2_with fail
    refine (l05BudgetR_is bd true HB.out _).mono ?_
    rintro e w' ⟨rfl, rfl⟩
    go_wp2_with fail
    go_ret
    exact ⟨⟨2, HZ, rfl⟩, hb⟩
  subst h3
  rcases Bool.eq_false_or_eq_true (x.all (fun x => inB x 0 1000000)) with h4 | h4
  rotate_left
  · have HB := Lib.hid h2
    have HC := Lib.hid h4
    have HZ := HZ2.out (by unfold argsOk; rw [h4]; simp)
    clear h2 h4
    go_enter Tryz.func11, Tryz.ntmps11
    go_wp2_with fail
    refine (l11Is_is _ n c f true HV.out _ ha hn).mono ?_
    rintro e w1 ⟨rfl, hb⟩
    have hq1 := cell_step hq hb
    go_wp2_with fail
    refine (l05BudgetR_is bd true HB.out _).mono ?_
    rintro e w' ⟨rfl, rfl⟩
    go_wp2_with fail
    refine (l07Counts_is b1 o1 n1 c1 x false HC.out _ (HS1.out _ hb) HL1.out (by omega)).mono ?_
    rintro e w' ⟨rfl, rfl⟩
    go_wp2_with fail
    go_ret
    exact ⟨⟨2, HZ, rfl⟩, hb⟩
  · have HB := Lib.hid h2
    have HC := Lib.hid h4
    have HZ : Hid ((0 : Int) = askR f x bd) := by unfold Hid askR argsOk; rw [HV.out, h2, h4, decide_eq_true (by rw [HL1.out, ← HNA.out])]; rfl
    clear h2 h4
    go_enter Tryz.func11, Tryz.ntmps11
    go_wp2_with fail
    refine (l11Is_is _ n c f true HV.out _ ha hn).mono ?_
    rintro e w1 ⟨rfl, hb⟩
    have hq1 := cell_step hq hb
    go_wp2_with fail
    refine (l05BudgetR_is bd true HB.out _).mono ?_
    rintro e w' ⟨rfl, rfl⟩
    go_wp2_with fail
    refine (l07Counts_is b1 o1 n1 c1 x true HC.out _ (HS1.out _ hb) HL1.out (by omega)).mono ?_
    rintro e w' ⟨rfl, rfl⟩
    go_wp2_with fail
    go_ret
    exact ⟨⟨0, HZ, rfl⟩, hb⟩
end Go.Proofs.YtjggkgdojhlhpaaGreat

/- RunFuncProgram of the reference: the run. -/
namespace Go.Proofs.YtjggkgdojhlhpaaGreat
open Go.RowKit
set_option linter.all false

/-- What the register program gives, with a code. -/
def regsR (f : List R3) (args : List Int) (bd : Int) : Int × Int × Int := if (progOfFunc f).2 = 0 then funcRun (progOfFunc f).1 args bd else (0, 0, (progOfFunc f).2)
theorem regsR_no {f : List R3} {args : List Int} {bd z : Int} (h : (progOfFunc f).2 = z) (hz : z ≠ 0) : regsR f args bd = (0, 0, z) := by unfold regsR; rw [h, if_neg hz]
theorem regsR_full {f : List R3} {args : List Int} {k : Nat} (h : (progOfFunc f).2 = 0) (hr : runR (progOfFunc f).1 k 0 0 (startR args) = none) : regsR f args (k : Int) = (0, 0, 5) := by
  unfold regsR funcRun; rw [h, if_pos rfl, Int.toNat_natCast, hr]
theorem regsR_stop {f : List R3} {args cs : List Int} {k m i : Nat} (h : (progOfFunc f).2 = 0) (hr : runR (progOfFunc f).1 k 0 0 (startR args) = some (m, i, cs)) (hi : i ≠ (progOfFunc f).1.length) : regsR f args (k : Int) = (0, 0, 5) := by
  unfold regsR funcRun; rw [h, if_pos rfl, Int.toNat_natCast, hr]; exact if_neg hi
theorem regsR_done {f : List R3} {args cs : List Int} {k m i : Nat} {v : Int} (h : (progOfFunc f).2 = 0) (hr : runR (progOfFunc f).1 k 0 0 (startR args) = some (m, i, cs)) (hi : i = (progOfFunc f).1.length) (hv : cs[args.length]? = some v) : regsR f args (k : Int) = (v, (m : Int), 0) := by
  unfold regsR funcRun; rw [h, if_pos rfl, Int.toNat_natCast, hr]
  show (if i = (progOfFunc f).1.length then _ else _) = _
  rw [if_pos hi, List.getD_eq_getElem?_getD, hv]; rfl

set_option maxRecDepth 100000 in
set_option maxHeartbeats 1000000 in
theorem l17Registers_any (b off n c : Nat) (f : List R3) (b1 o1 n1 c1 : Nat) (x : List Int) (bd : Int) (w : World) (hs : Sl w b off (rows R3.vs f)) (hl : f.length = n) (hn : n ≤ 1048576) (hc : n ≤ c) (hf : ∀ x ∈ f, x.wf) (hs1 : Sl w b1 o1 (x.map (.int .i64))) (hl1 : x.length = n1) (hn1 : n1 ≤ 1048576) (hV : validF f = true) (hA : argsOk f x bd = true) :
    Calls Tryz.prog 12 #[.slice (some ⟨b, off, none⟩) n c, .slice (some ⟨b1, o1, none⟩) n1 c1, .int .i64 bd] w fun e w' => (∃ z1 z2 z3 : Int, Hid ((z1, z2, z3) = regsR f x bd) ∧ e = .returned (.tuple #[.int .i64 z1, .int .i64 z2, .int .i64 z3])) ∧ Below w.heap.size w w' := by
  have HL := Lib.hid hl; have HL1 := Lib.hid hl1
  obtain ⟨⟨hb1, hb2⟩, hxl, hxa⟩ := argsOk_parts hA
  obtain ⟨k, rfl⟩ : ∃ k : Nat, bd = (k : Int) := ⟨bd.toNat, by omega⟩
  obtain ⟨y, l, hfe, -, hyb, ha4, -⟩ := validF_head hV
  rw [← hxl, hl1] at hyb
  have hn4 : n1 ≤ 4 := by omega
  have h0 : f[0]? = some y := by rw [hfe]; rfl
  have hn0 : 0 < n := by have := HL.out; rw [hfe] at this; simp at this; omega
  have hq : w.cell? ⟨b, off + 1, none⟩ = some (.int .i64 n1) := by
    have := (hs.rec3 h0).2.1
    rw [hyb] at this
    simpa using this
  have HOC := Lib.hid (startR_ok (by omega) hxa)
  clear hfe h0 hyb ha4 hxl hxa hA hV hl hl1
  go_enter Tryz.func12, Tryz.ntmps12
  go_wp2_with fail
  refine (specProgramOfFunc_any b off n c f _ hs HL.out hn hc hf).mono ?_
  rintro e w1 ⟨pv, rfl, own1, bw1⟩
  obtain ⟨A, cp, rfl⟩ := own_form own1
  obtain ⟨z, hz⟩ : ∃ z, z = (progOfFunc f).2 := ⟨_, rfl⟩
  rw [← hz]
  have HZ := Lib.hid hz.symm; clear hz
  obtain ⟨np, hnp⟩ : ∃ np, np = (progOfFunc f).1.length := ⟨_, rfl⟩
  rw [← hnp] at own1 ⊢
  have HNP := Lib.hid hnp.symm; clear hnp
  by_cases hz0 : z = 0
  rotate_left
  · have HR : Hid (((0 : Int), (0 : Int), z) = regsR f x (k : Int)) := (regsR_no HZ.out hz0).symm
    go_wp2_with fail
    go_ret3
    exact ⟨⟨0, 0, z, HR, rfl⟩, bw1⟩
  subst hz0
  have HOP : Hid (OkP np (progOfFunc f).1) := by unfold Hid; have := okP_of HZ.out; rwa [HNP.out] at this
  have hnp4 : np ≤ 400 := by have := (progOfFunc_ok HZ.out).2.1; rw [HNP.out] at this; exact this
  have hpa := args_of_own own1
  have hq1 := cell_step hq bw1
  have hs11 := hs1.below' bw1
  obtain ⟨P, hP⟩ : ∃ P, Hid ((progOfFunc f).1 = P) := ⟨_, rfl⟩
  rw [hP.out] at own1 HOP hpa
  go_wp2_with fail
  refine (l07Start_any b1 o1 n1 c1 x _ hs11 HL1.out (by omega)).mono ?_
  rintro e w2 ⟨g2, d2, rfl, own2, bw2, hd2⟩
  have B2 := below_step bw1 bw2
  have hq2 := cell_step hq1 bw2
  go_wp2_with fail
  refine (l07Run_any A np cp P g2 d2 (startR x) k _ (hpa.below bw2) HOP.out (by omega) HOC.out (by omega) (sl_of_own own2)).mono ?_
  rintro e w3 ⟨hout, bw3⟩
  have B3 := below_step B2 bw3
  have hq3 := cell_step hq2 bw3
  clear own1 hpa hq hq1 hq2 hs11 own2
  cases hR : runR P k 0 0 (startR x) with
  | none =>
    rw [hR] at hout
    have HR : Hid (((0 : Int), (0 : Int), (5 : Int)) = regsR f x (k : Int)) := (regsR_full HZ.out (by rw [hP.out]; exact hR)).symm
    obtain rfl := hout
    clear hR
    go_wp2_with fail
    go_ret3
    exact ⟨⟨0, 0, 5, HR, rfl⟩, below_step B3 (laid_below _ _)⟩
  | some r =>
    obtain ⟨m, i, cs⟩ := r
    rw [hR] at hout
    have HRR := Lib.hid hR; clear hR
    obtain ⟨g3, d3, rfl, own3, hd3⟩ := hout
    by_cases hi : i = np
    rotate_left
    · have HR : Hid (((0 : Int), (0 : Int), (5 : Int)) = regsR f x (k : Int)) := (regsR_stop HZ.out (by rw [hP.out]; exact HRR.out) (by rw [HNP.out]; exact hi)).symm
      rw [decide_eq_false hi]
      go_wp2_with fail
      go_ret3
      exact ⟨⟨0, 0, 5, HR, rfl⟩, below_step B3 (laid_below _ _)⟩
    · have hcl : cs.length = 24 := by have := own3.1; rw [List.length_map] at this; omega
      obtain ⟨v, hv⟩ : ∃ v, cs[n1]? = some v := ⟨_, List.getElem?_eq_getElem (by omega)⟩
      have HR : Hid ((v, (m : Int), (0 : Int)) = regsR f x (k : Int)) := (regsR_done HZ.out (by rw [hP.out]; exact HRR.out) (by rw [HNP.out]; exact hi) (by rw [HL1.out]; exact hv)).symm
      rw [decide_eq_true hi]
      have bl := laid_below w3 (.cells #[.int .i64 i, .slice (some ⟨g3, 0, none⟩) 24 d3] 43)
      have hq4 := cell_step hq3 bl
      have cv : (w3.alloc (.cells #[.int .i64 i, .slice (some ⟨g3, 0, none⟩) 24 d3] 43)).cell? ⟨g3, n1, none⟩ = some (.int .i64 v) := by
        have := (sl_of_own (own_below' own3 bl)).at (j := n1) (u := .int .i64 v) (by rw [List.getElem?_map, hv]; rfl)
        simpa using this
      have ir0 : (0 : Int) ≤ (n1 : Int) := by omega
      have ir1 : (n1 : Int) < (24 : Int) := by omega
      have B4 := below_step B3 bl
      have HI := Lib.hid hi
      clear hi own3 hcl hv hq3 bl
      go_wp2_with fail
      go_quiet (fail)
      go_wp2_with fail
      go_ret3
      exact ⟨⟨v, m, 0, HR, rfl⟩, below_drewN B4 _⟩
end Go.Proofs.YtjggkgdojhlhpaaGreat

/- RunFuncProgram of the reference: the whole. -/
namespace Go.Proofs.YtjggkgdojhlhpaaGreat
open Go.RowKit
set_option linter.all false

theorem runF_no {f : List R3} {x : List Int} {bd z : Int} (h : z = askR f x bd) (hz : z ≠ 0) : runFuncProgram f x bd = (0, 0, z) := by
  unfold askR at h
  unfold runFuncProgram
  by_cases h1 : validF f = true
  · rw [if_pos h1] at h ⊢
    by_cases h2 : argsOk f x bd = true
    · rw [if_pos h2] at h; exact absurd h hz
    · rw [if_neg h2] at h ⊢; rw [h]
  · rw [if_neg h1] at h ⊢; rw [h]
theorem runF_yes {f : List R3} {x : List Int} {bd : Int} (h : (0 : Int) = askR f x bd) : validF f = true ∧ argsOk f x bd = true ∧ runFuncProgram f x bd = regsR f x bd := by
  unfold askR at h
  by_cases h1 : validF f = true
  · rw [if_pos h1] at h
    by_cases h2 : argsOk f x bd = true
    · refine ⟨h1, h2, ?_⟩
      unfold runFuncProgram regsR
      rw [if_pos h1, if_pos h2]
    · rw [if_neg h2] at h; omega
  · rw [if_neg h1] at h; omega
theorem ends3i {a b c d e f : Int} (h : (a, b, c) = (d, e, f)) : Ending.returned (.tuple #[.int .i64 a, .int .i64 b, .int .i64 c]) = .returned (.tuple #[.int .i64 d, .int .i64 e, .int .i64 f]) := by
  injection h with h1 h2; injection h2 with h2 h3; rw [h1, h2, h3]

set_option maxRecDepth 100000 in
theorem specRunFuncProgram_any (b off n c : Nat) (f : List R3) (b1 o1 n1 c1 : Nat) (x : List Int) (bd : Int) (w : World) (hs : Sl w b off (rows R3.vs f)) (hl : f.length = n) (hn : n ≤ 1048576) (hc : n ≤ c) (hf : ∀ x ∈ f, x.wf) (hs1 : Sl w b1 o1 (x.map (.int .i64))) (hl1 : x.length = n1) (hn1 : n1 ≤ 1048576) (wf1 : Wf64s x) (wf2 : Wf64 bd) :
    Calls Tryz.prog 5 #[.slice (some ⟨b, off, none⟩) n c, .slice (some ⟨b1, o1, none⟩) n1 c1, .int .i64 bd] w fun e w' => e = .returned (.tuple #[.int .i64 (runFuncProgram f x bd).1, .int .i64 (runFuncProgram f x bd).2.1, .int .i64 (runFuncProgram f x bd).2.2]) ∧ Below w.heap.size w w' := by
  clear wf1 wf2
  have HL := Lib.hid hl; have HL1 := Lib.hid hl1
  clear hl hl1
  go_enter Tryz.func5, Tryz.ntmps5
  go_wp2_with fail
  refine (l17Ask_any b off n c f b1 o1 n1 c1 x bd _ hs HL.out hn hs1 HL1.out hn1).mono ?_
  rintro e w1 ⟨⟨z, HZ, rfl⟩, hb⟩
  by_cases hz : z = 0
  rotate_left
  · have HF := Lib.hid (runF_no HZ.out hz)
    go_wp2_with fail
    go_ret3
    exact ⟨ends3i (by rw [HF.out]), hb⟩
  subst hz
  obtain ⟨hV, hA, hF⟩ := runF_yes HZ.out
  have HF := Lib.hid hF
  have HR := Lib.hid (fun W (hW : Below w.heap.size w W) => l17Registers_any b off n c f b1 o1 n1 c1 x bd W (hs.below' hW) HL.out hn hc hf (hs1.below' hW) HL1.out hn1 hV hA)
  clear hV hA hF
  go_wp2_with fail
  refine (HR.out _ hb).mono ?_
  rintro e w2 ⟨⟨z1, z2, z3, HQ, rfl⟩, hb2⟩
  go_wp2_with fail
  go_ret3
  exact ⟨ends3i (by rw [HF.out]; exact HQ.out), below_step hb hb2⟩
end Go.Proofs.YtjggkgdojhlhpaaGreat

/- One step of a register program, by the program: the store is written over. -/
namespace Go.Proofs.YtjggkgdojhlhpaaGreat
open Go.RowKit
set_option linter.all false

set_option maxRecDepth 100000 in
set_option maxHeartbeats 1000000 in
theorem stepStore_any (b off n c : Nat) (xs : List R4) (x : R4) (i r gx gb cb B : Nat) (cs : List Int) (v : Int) (w : World)
    (hs : Sl w b off (rows R4.vs xs)) (hx : xs[i]? = some x) (hi : i < n) (hn : n ≤ 1048576) (hr : x.b = (r : Int)) (hr2 : r < 24) (hcl : cs.length = 24) (hv : cs[r]? = some v) (hv0 : 0 ≤ v ∧ v ≤ 1000000) (hk : x.a = 0 ∨ x.a = 1)
    (hX : w.heap[gx]? = some (.cells #[.int .i64 i, .slice (some ⟨gb, 0, none⟩) 24 cb] 43 (0, 0))) (own : w.ownsRow B 2 1 (.slice (some ⟨gb, 0, none⟩) 24 cb) 24 (cs.map (.int .i64))) (hgx : gx ≠ gb) (hBx : B ≤ gx) (hBw : B ≤ w.heap.size) :
    Calls Tryz.prog 34 #[.slice (some ⟨b, off, none⟩) n c, .pointer (some ⟨gx, 0, none⟩)] w fun e w' => e = .returned (.bool (!overR x cs)) ∧ w'.heap[gx]? = some (.cells #[.int .i64 (stepR x cs).1, .slice (some ⟨gb, 0, none⟩) 24 cb] 43 (0, 0)) ∧
      w'.ownsRow B 2 1 (.slice (some ⟨gb, 0, none⟩) 24 cb) 24 ((stepR x cs).2.map (.int .i64)) ∧ Below B w w' := by
  obtain ⟨xa, xb, xc, xd⟩ := x
  dsimp only at hr hk
  subst hr
  have HCL := Lib.hid hcl; clear hcl
  obtain ⟨q0, q1, q2, q3⟩ := hs.rec4 hx
  have hxw := heap_lt hX
  have hbw := (own.lt gb rfl).2
  have hbB := (own.lt gb rfl).1
  have h0 : w.cell? ⟨gx, 0, none⟩ = some (.int .i64 i) := by rw [cell_of_heap hX]; rfl
  obtain ⟨w0, HW0, B0, z0⟩ := al1 w (.cells #[.int .i64 xa, .int .i64 r, .int .i64 xc, .int .i64 xd] 66)
  have X0 := (B0.block _ hxw).trans hX
  have own0 := own_below' own B0
  have BB := B0.mono hBw
  have t0 : w0.cell? ⟨gx, 0, none⟩ = some (.int .i64 i) := by rw [cell_of_heap X0]; rfl
  have t1 : w0.cell? ⟨gx, 1, none⟩ = some (.slice (some ⟨gb, 0, none⟩) 24 cb) := by rw [cell_of_heap X0]; rfl
  have tf : w0.frozen? ⟨gx, 0, none⟩ = false := frozen_of_heap X0
  have cv : w0.cell? ⟨gb, r, none⟩ = some (.int .i64 v) := by
    have := (sl_of_own own0).at (j := r) (u := .int .i64 v) (by rw [List.getElem?_map, hv]; rfl)
    simpa using this
  have cf : w0.frozen? ⟨gb, r, none⟩ = false := own_frozen own0 _
  have k0 : w0.cell? ⟨w.heap.size, 0, none⟩ = some (.int .i64 xa) := by rw [cell_of_heap z0]; rfl
  have k1 : w0.cell? ⟨w.heap.size, 1, none⟩ = some (.int .i64 r) := by rw [cell_of_heap z0]; rfl
  have k2 : w0.cell? ⟨w.heap.size, 2, none⟩ = some (.int .i64 xc) := by rw [cell_of_heap z0]; rfl
  have k3 : w0.cell? ⟨w.heap.size, 3, none⟩ = some (.int .i64 xd) := by rw [cell_of_heap z0]; rfl
  have ir0 : (0 : Int) ≤ (r : Int) := by omega
  have ir1 : (r : Int) < (24 : Int) := by omega
  have n1 : w.heap.size ≠ gb := by omega
  have n2 : w.heap.size ≠ gx := by omega
  go_enter Tryz.func34, Tryz.ntmps34
  go_wp2_with fail
  rw [← HW0.out]
  clear q0 q1 q2 q3 hs hX own
  go_quiet (fail)
  have X1 : (w0.drewN nq).heap[gx]? = some (.cells #[.int .i64 i, .slice (some ⟨gb, 0, none⟩) 24 cb] 43 (0, 0)) := X0
  have own1 : (w0.drewN nq).ownsRow B 2 1 (.slice (some ⟨gb, 0, none⟩) 24 cb) 24 (cs.map (.int .i64)) := own0
  have Z1 : (w0.drewN nq).heap[w.heap.size]? = some (.cells #[.int .i64 xa, .int .i64 r, .int .i64 xc, .int .i64 xd] 66 (0, 0)) := z0
  have BB1 := below_drewN BB nq
  clear X0 own0 BB B0 t0 t1 tf cv cf k0 k1 k2 k3 h0 HW0 z0
  generalize w0.drewN nq = wq at *
  have t0 : wq.cell? ⟨gx, 0, none⟩ = some (.int .i64 i) := by rw [cell_of_heap X1]; rfl
  have tf : wq.frozen? ⟨gx, 0, none⟩ = false := frozen_of_heap X1
  have cv : wq.cell? ⟨gb, r, none⟩ = some (.int .i64 v) := by
    have := (sl_of_own own1).at (j := r) (u := .int .i64 v) (by rw [List.getElem?_map, hv]; rfl)
    simpa using this
  have cf : wq.frozen? ⟨gb, r, none⟩ = false := own_frozen own1 _
  have k0 : wq.cell? ⟨w.heap.size, 0, none⟩ = some (.int .i64 xa) := by rw [cell_of_heap Z1]; rfl
  have k2 : wq.cell? ⟨w.heap.size, 2, none⟩ = some (.int .i64 xc) := by rw [cell_of_heap Z1]; rfl
  have k3 : wq.cell? ⟨w.heap.size, 3, none⟩ = some (.int .i64 xd) := by rw [cell_of_heap Z1]; rfl
  rcases hk with rfl | rfl
  · obtain ⟨e1, e2⟩ := stepR_inc (x := ⟨0, r, xc, xd⟩) rfl rfl hv
    have HE1 := Lib.hid e1
    have HE2 := Lib.hid e2
    clear e1 e2
    have wv : IntKind.i64.wrap (v + 1) = v + 1 := IntWalk.i64_in _ (by omega)
    have X2 : (wq.setCell ⟨gb, r, none⟩ (.int .i64 (v + 1))).heap[gx]? = some (.cells #[.int .i64 i, .slice (some ⟨gb, 0, none⟩) 24 cb] 43 (0, 0)) := heap_set_other X1 _ (by dsimp only; exact hgx) _
    have own2 : (wq.setCell ⟨gb, r, none⟩ (.int .i64 (v + 1))).ownsRow B 2 1 (.slice (some ⟨gb, 0, none⟩) 24 cb) 24 ((cs.set r (v + 1)).map (.int .i64)) := by
      have := (own1.stored r (.int .i64 (v + 1))).1
      rw [List.map_set]; exact this
    have B2 : Below B w (wq.setCell ⟨gb, r, none⟩ (.int .i64 (v + 1))) := BB1.setCell (p := ⟨gb, r, none⟩) hbB _
    have j2 : (wq.setCell ⟨gb, r, none⟩ (.int .i64 (v + 1))).cell? ⟨w.heap.size, 2, none⟩ = some (.int .i64 xc) := cell_set_far k2 n1
    have s0 : (wq.setCell ⟨gb, r, none⟩ (.int .i64 (v + 1))).cell? ⟨gx, 0, none⟩ = some (.int .i64 i) := by rw [cell_of_heap X2]; rfl
    have sf : (wq.setCell ⟨gb, r, none⟩ (.int .i64 (v + 1))).frozen? ⟨gx, 0, none⟩ = false := frozen_of_heap X2
    have X3 : ((wq.setCell ⟨gb, r, none⟩ (.int .i64 (v + 1))).setCell ⟨gx, 0, none⟩ (.int .i64 xc)).heap[gx]? = some (.cells #[.int .i64 xc, .slice (some ⟨gb, 0, none⟩) 24 cb] 43 (0, 0)) := heap_set X2 _
    have own3 : ((wq.setCell ⟨gb, r, none⟩ (.int .i64 (v + 1))).setCell ⟨gx, 0, none⟩ (.int .i64 xc)).ownsRow B 2 1 (.slice (some ⟨gb, 0, none⟩) 24 cb) 24 ((cs.set r (v + 1)).map (.int .i64)) := own_set_other own2 ⟨gx, 0, none⟩ _ (by dsimp only; omega)
    have B3 : Below B w ((wq.setCell ⟨gb, r, none⟩ (.int .i64 (v + 1))).setCell ⟨gx, 0, none⟩ (.int .i64 xc)) := B2.setCell (p := ⟨gx, 0, none⟩) hBx _
    have c3 : ((wq.setCell ⟨gb, r, none⟩ (.int .i64 (v + 1))).setCell ⟨gx, 0, none⟩ (.int .i64 xc)).cell? ⟨gb, r, none⟩ = some (.int .i64 (v + 1)) := by
      have := (sl_of_own own3).at (j := r) (u := .int .i64 (v + 1)) (by rw [List.getElem?_map, List.getElem?_set_self (by have := HCL.out; omega)]; rfl)
      simpa using this
    clear X1 own1 X2 own2 BB1 B2
    go_wp2
    go_ret
    refine ⟨ret_bool (by rw [HE2.out]; by_cases h9 : v + 1 ≤ 1000000 <;> simp [h9] <;> omega), by rw [HE1.out]; exact X3, by rw [HE1.out]; exact own3, B3⟩
  · by_cases hv9 : v = 0
    · subst hv9
      obtain ⟨e1, e2⟩ := stepR_zero (x := ⟨1, r, xc, xd⟩) rfl rfl hv
      have HE1 := Lib.hid e1
      have HE2 := Lib.hid e2
      clear e1 e2
      have X2 := X1
      have own2 := own1
      have B2 := BB1
      have X3 : (wq.setCell ⟨gx, 0, none⟩ (.int .i64 xd)).heap[gx]? = some (.cells #[.int .i64 xd, .slice (some ⟨gb, 0, none⟩) 24 cb] 43 (0, 0)) := heap_set X2 _
      have own3 : (wq.setCell ⟨gx, 0, none⟩ (.int .i64 xd)).ownsRow B 2 1 (.slice (some ⟨gb, 0, none⟩) 24 cb) 24 ((cs).map (.int .i64)) := own_set_other own2 ⟨gx, 0, none⟩ _ (by dsimp only; omega)
      have B3 : Below B w (wq.setCell ⟨gx, 0, none⟩ (.int .i64 xd)) := B2.setCell (p := ⟨gx, 0, none⟩) hBx _
      have c3 : (wq.setCell ⟨gx, 0, none⟩ (.int .i64 xd)).cell? ⟨gb, r, none⟩ = some (.int .i64 (0)) := by
        have := (sl_of_own own3).at (j := r) (u := .int .i64 (0)) (by rw [List.getElem?_map, hv]; rfl)
        simpa using this
      clear X1 own1 X2 own2 BB1 B2
      go_wp2
      go_ret
      refine ⟨ret_bool (by rw [HE2.out]; rfl), by rw [HE1.out]; exact X3, by rw [HE1.out]; exact own3, B3⟩
    · obtain ⟨e1, e2⟩ := stepR_dec (x := ⟨1, r, xc, xd⟩) rfl rfl hv hv9
      have HE1 := Lib.hid e1
      have HE2 := Lib.hid e2
      clear e1 e2
      have wv : IntKind.i64.wrap (v - 1) = v - 1 := IntWalk.i64_in _ (by omega)
      have hvp : 0 < v := by omega
      have hle : v - 1 ≤ 1000000 := by omega
      have X2 : (wq.setCell ⟨gb, r, none⟩ (.int .i64 (v - 1))).heap[gx]? = some (.cells #[.int .i64 i, .slice (some ⟨gb, 0, none⟩) 24 cb] 43 (0, 0)) := heap_set_other X1 _ (by dsimp only; exact hgx) _
      have own2 : (wq.setCell ⟨gb, r, none⟩ (.int .i64 (v - 1))).ownsRow B 2 1 (.slice (some ⟨gb, 0, none⟩) 24 cb) 24 ((cs.set r (v - 1)).map (.int .i64)) := by
        have := (own1.stored r (.int .i64 (v - 1))).1
        rw [List.map_set]; exact this
      have B2 : Below B w (wq.setCell ⟨gb, r, none⟩ (.int .i64 (v - 1))) := BB1.setCell (p := ⟨gb, r, none⟩) hbB _
      have j2 : (wq.setCell ⟨gb, r, none⟩ (.int .i64 (v - 1))).cell? ⟨w.heap.size, 2, none⟩ = some (.int .i64 xc) := cell_set_far k2 n1
      have s0 : (wq.setCell ⟨gb, r, none⟩ (.int .i64 (v - 1))).cell? ⟨gx, 0, none⟩ = some (.int .i64 i) := by rw [cell_of_heap X2]; rfl
      have sf : (wq.setCell ⟨gb, r, none⟩ (.int .i64 (v - 1))).frozen? ⟨gx, 0, none⟩ = false := frozen_of_heap X2
      have X3 : ((wq.setCell ⟨gb, r, none⟩ (.int .i64 (v - 1))).setCell ⟨gx, 0, none⟩ (.int .i64 xc)).heap[gx]? = some (.cells #[.int .i64 xc, .slice (some ⟨gb, 0, none⟩) 24 cb] 43 (0, 0)) := heap_set X2 _
      have own3 : ((wq.setCell ⟨gb, r, none⟩ (.int .i64 (v - 1))).setCell ⟨gx, 0, none⟩ (.int .i64 xc)).ownsRow B 2 1 (.slice (some ⟨gb, 0, none⟩) 24 cb) 24 ((cs.set r (v - 1)).map (.int .i64)) := own_set_other own2 ⟨gx, 0, none⟩ _ (by dsimp only; omega)
      have B3 : Below B w ((wq.setCell ⟨gb, r, none⟩ (.int .i64 (v - 1))).setCell ⟨gx, 0, none⟩ (.int .i64 xc)) := B2.setCell (p := ⟨gx, 0, none⟩) hBx _
      have c3 : ((wq.setCell ⟨gb, r, none⟩ (.int .i64 (v - 1))).setCell ⟨gx, 0, none⟩ (.int .i64 xc)).cell? ⟨gb, r, none⟩ = some (.int .i64 (v - 1)) := by
        have := (sl_of_own own3).at (j := r) (u := .int .i64 (v - 1)) (by rw [List.getElem?_map, List.getElem?_set_self (by have := HCL.out; omega)]; rfl)
        simpa using this
      clear X1 own1 X2 own2 BB1 B2
      go_wp2
      go_ret
      refine ⟨ret_bool (by rw [HE2.out]; first | rfl | (simp; done) | (simp; omega)), by rw [HE1.out]; exact X3, by rw [HE1.out]; exact own3, B3⟩
end Go.Proofs.YtjggkgdojhlhpaaGreat

/- The run of a register program, by the program. -/
namespace Go.Proofs.YtjggkgdojhlhpaaGreat
open Go.RowKit
set_option linter.all false

theorem sizeInstrR_any (A : Option Addr) (n c : Nat) (w : World) : Calls Tryz.prog 33 #[.slice A n c] w fun e w' => e = .returned (.int .i64 n) ∧ w = w' := by
  go_enter Tryz.func33, Tryz.ntmps33
  go_wp2
  go_ret
  exact ⟨rfl, rfl⟩
theorem visitNone_any (a b : Value) (w : World) : Calls Tryz.prog 18 #[.agg #[a, b]] w fun e w' => e = .returned (.tuple #[]) ∧ Below w.heap.size w w' := by
  go_enter Tryz.func18, Tryz.ntmps18
  go_wp2
  go_end0
  exact ⟨rfl, laid_below _ _⟩

/-- What the program's run returns and leaves in the store. -/
def RunOutI (B gx gb cb n : Nat) (R : Option (Nat × Nat × List Int)) (e : Ending) (w : World) : Prop :=
  match R with
  | none => e = .returned (.tuple #[.int .i64 0, .bool false, .int .i64 5])
  | some (m, i, cs) => e = .returned (.tuple #[.int .i64 m, .bool (decide (i = n)), .int .i64 0]) ∧ w.heap[gx]? = some (.cells #[.int .i64 i, .slice (some ⟨gb, 0, none⟩) 24 cb] 43 (0, 0)) ∧ w.ownsRow B 2 1 (.slice (some ⟨gb, 0, none⟩) 24 cb) 24 (cs.map (.int .i64))

set_option maxRecDepth 100000 in
set_option maxHeartbeats 1000000 in
theorem runStore_any (A : Option Addr) (n c : Nat) (xs : List R4) (gx gb cb B : Nat) (cs : List Int) (bd : Nat) (w : World)
    (hs : Args 4 w A n (rows R4.vs xs)) (hsB : ∀ b off, A = some ⟨b, off, none⟩ → 0 < n → b < B) (hp : OkP n xs) (hn : n ≤ 1048576) (hcs : OkC cs) (hbd : bd ≤ 1048576)
    (hX : w.heap[gx]? = some (.cells #[.int .i64 0, .slice (some ⟨gb, 0, none⟩) 24 cb] 43 (0, 0))) (own : w.ownsRow B 2 1 (.slice (some ⟨gb, 0, none⟩) 24 cb) 24 (cs.map (.int .i64))) (hgx : gx ≠ gb) (hBx : B ≤ gx) (hBw : B ≤ w.heap.size) :
    Calls Tryz.prog 17 #[.slice A n c, .pointer (some ⟨gx, 0, none⟩), .int .i64 bd, .func (.func 18) #[] #[]] w fun e w' => RunOutI B gx gb cb n (runR xs bd 0 0 cs) e w' ∧ Below B w w' := by
  have HP := Lib.hid hp; clear hp
  have HCS := Lib.hid hcs; clear hcs
  have HSB := Lib.hid hsB; clear hsB
  have hE := enters_of' (P := Tryz.prog) Tryz.func18 (by kernel_rfl) rfl
  go_enter Tryz.func17, Tryz.ntmps17
  go_wp2_with fail
  go_loopw [11] (fun iv wr => ∃ (k f i : Nat) (ds : List Int), k + f = bd ∧ iv = .int .i64 k ∧ wr.heap[gx]? = some (.cells #[.int .i64 i, .slice (some ⟨gb, 0, none⟩) 24 cb] 43 (0, 0)) ∧ wr.ownsRow B 2 1 (.slice (some ⟨gb, 0, none⟩) 24 cb) 24 (ds.map (.int .i64)) ∧ Below B w wr ∧ i ≤ n ∧ Hid (OkC ds) ∧ Hid (runR xs bd 0 0 cs = runR xs f k i ds)) (fun iv _ => bd - (intOf iv).toNat)
  case atStart => exact ⟨0, bd, 0, cs, Nat.zero_add _, rfl, hX, own, Below.refl _ _, Nat.zero_le _, HCS, rfl⟩
  case round =>
    clear hX own
    obtain ⟨k, f, i, ds, hkf, rfl, hT, own, Br, hin, HD, HR⟩ := hrel
    have hxw := heap_lt hT
    have t0 : wr.cell? ⟨gx, 0, none⟩ = some (.int .i64 i) := by rw [cell_of_heap hT]; rfl
    have t1 : wr.cell? ⟨gx, 1, none⟩ = some (.slice (some ⟨gb, 0, none⟩) 24 cb) := by rw [cell_of_heap hT]; rfl
    have hwB : B ≤ wr.heap.size := Nat.le_trans hBw Br.size
    go_wp2_with fail
    refine (visitNone_any _ _ _).mono ?_
    rintro e w1 ⟨rfl, b1⟩
    have T1 := (b1.block _ hxw).trans hT
    have own1 := own_below' own b1
    have B1 := Br.trans (b1.mono hwB)
    clear t0 t1 hT own Br b1 hxw hwB
    have t0 : w1.cell? ⟨gx, 0, none⟩ = some (.int .i64 i) := by rw [cell_of_heap T1]; rfl
    have t1 : w1.cell? ⟨gx, 1, none⟩ = some (.slice (some ⟨gb, 0, none⟩) 24 cb) := by rw [cell_of_heap T1]; rfl
    by_cases hi : i = n
    · have HF : Hid (runR xs bd 0 0 cs = some (k, i, ds)) := HR.out.trans (runR_end (by rw [HP.out.1, hi]) _)
      subst hi
      go_wp2_with fail
      go_quiet ((go_at_call 33; first | exact quiet_eq (sizeInstrR_any A i c _) | exact quiet_eq2 (sizeInstrR_any A i c _)))
      have T2 : (w1.drewN nq).heap[gx]? = some (.cells #[.int .i64 i, .slice (some ⟨gb, 0, none⟩) 24 cb] 43 (0, 0)) := T1
      have own2 : (w1.drewN nq).ownsRow B 2 1 (.slice (some ⟨gb, 0, none⟩) 24 cb) 24 (ds.map (.int .i64)) := own1
      have B2 := below_drewN B1 nq
      clear t0 t1 T1 own1 B1
      generalize w1.drewN nq = w2 at *
      have t0 : w2.cell? ⟨gx, 0, none⟩ = some (.int .i64 i) := by rw [cell_of_heap T2]; rfl
      have t1 : w2.cell? ⟨gx, 1, none⟩ = some (.slice (some ⟨gb, 0, none⟩) 24 cb) := by rw [cell_of_heap T2]; rfl
      go_wp2_with fail
      go_quiet ((go_at_call 33; first | exact quiet_eq (sizeInstrR_any A i c _) | exact quiet_eq2 (sizeInstrR_any A i c _)))
      have T3 : (w2.drewN nq).heap[gx]? = some (.cells #[.int .i64 i, .slice (some ⟨gb, 0, none⟩) 24 cb] 43 (0, 0)) := T2
      have own3 : (w2.drewN nq).ownsRow B 2 1 (.slice (some ⟨gb, 0, none⟩) 24 cb) 24 (ds.map (.int .i64)) := own2
      have B3 := below_drewN B2 nq
      clear t0 t1 T2 own2 B2
      generalize w2.drewN nq = w3 at *
      have t0 : w3.cell? ⟨gx, 0, none⟩ = some (.int .i64 i) := by rw [cell_of_heap T3]; rfl
      have t1 : w3.cell? ⟨gx, 1, none⟩ = some (.slice (some ⟨gb, 0, none⟩) 24 cb) := by rw [cell_of_heap T3]; rfl
      go_wp2_with fail
      go_ret3
      exact ⟨by rw [HF.out]; exact ⟨by simp, T3, own3⟩, B3⟩
    · have hi2 : ¬ (i : Int) = (n : Int) := by omega
      have hib : ((i : Int) == (n : Int)) = false := by simpa using hi2
      cases f with
      | zero =>
        obtain rfl : k = bd := by omega
        have HF : Hid (runR xs k 0 0 cs = some (k, i, ds)) := HR.out
        go_wp2_with fail
        go_quiet ((go_at_call 33; first | exact quiet_eq (sizeInstrR_any A n c _) | exact quiet_eq2 (sizeInstrR_any A n c _)))
        have T2 : (w1.drewN nq).heap[gx]? = some (.cells #[.int .i64 i, .slice (some ⟨gb, 0, none⟩) 24 cb] 43 (0, 0)) := T1
        have own2 : (w1.drewN nq).ownsRow B 2 1 (.slice (some ⟨gb, 0, none⟩) 24 cb) 24 (ds.map (.int .i64)) := own1
        have B2 := below_drewN B1 nq
        clear t0 t1 T1 own1 B1
        generalize w1.drewN nq = w2 at *
        have t0 : w2.cell? ⟨gx, 0, none⟩ = some (.int .i64 i) := by rw [cell_of_heap T2]; rfl
        have t1 : w2.cell? ⟨gx, 1, none⟩ = some (.slice (some ⟨gb, 0, none⟩) 24 cb) := by rw [cell_of_heap T2]; rfl
        go_wp2_with fail
        go_quiet ((go_at_call 33; first | exact quiet_eq (sizeInstrR_any A n c _) | exact quiet_eq2 (sizeInstrR_any A n c _)))
        have T3 : (w2.drewN nq).heap[gx]? = some (.cells #[.int .i64 i, .slice (some ⟨gb, 0, none⟩) 24 cb] 43 (0, 0)) := T2
        have own3 : (w2.drewN nq).ownsRow B 2 1 (.slice (some ⟨gb, 0, none⟩) 24 cb) 24 (ds.map (.int .i64)) := own2
        have B3 := below_drewN B2 nq
        clear t0 t1 T2 own2 B2
        generalize w2.drewN nq = w3 at *
        have t0 : w3.cell? ⟨gx, 0, none⟩ = some (.int .i64 i) := by rw [cell_of_heap T3]; rfl
        have t1 : w3.cell? ⟨gx, 1, none⟩ = some (.slice (some ⟨gb, 0, none⟩) 24 cb) := by rw [cell_of_heap T3]; rfl
        go_wp2_with fail
        go_ret3
        exact ⟨by rw [HF.out]; exact ⟨by simp [hi, hi2], T3, own3⟩, B3⟩
      | succ f =>
        have hkb : ¬ (k : Int) = (bd : Int) := by omega
        have hkbb : ((k : Int) == (bd : Int)) = false := by simpa using hkb
        obtain ⟨x, r, HX, hr, hr2, hk, hxc, hxd⟩ := HP.out.at (show i < n by omega)
        obtain ⟨v, HV, hv0⟩ := HD.out.at hr2
        obtain ⟨b, off, rfl, hsb⟩ := hs.sl (show 0 < n by omega)
        have hbB := HSB.out b off rfl (by omega)
        go_wp2_with fail
        go_quiet ((go_at_call 33; first | exact quiet_eq (sizeInstrR_any _ n c _) | exact quiet_eq2 (sizeInstrR_any _ n c _)))
        have T2 : (w1.drewN nq).heap[gx]? = some (.cells #[.int .i64 i, .slice (some ⟨gb, 0, none⟩) 24 cb] 43 (0, 0)) := T1
        have own2 : (w1.drewN nq).ownsRow B 2 1 (.slice (some ⟨gb, 0, none⟩) 24 cb) 24 (ds.map (.int .i64)) := own1
        have B2 := below_drewN B1 nq
        clear t0 t1 T1 own1 B1
        generalize w1.drewN nq = w2 at *
        have t0 : w2.cell? ⟨gx, 0, none⟩ = some (.int .i64 i) := by rw [cell_of_heap T2]; rfl
        have t1 : w2.cell? ⟨gx, 1, none⟩ = some (.slice (some ⟨gb, 0, none⟩) 24 cb) := by rw [cell_of_heap T2]; rfl
        have HST := Lib.hid (stepStore_any b off n c xs x i r gx gb cb B ds v w2 (hsb.below B2 hbB) HX.out (by omega) hn hr hr2 HD.out.1 HV.out hv0 hk T2 own2 hgx hBx (Nat.le_trans hBw B2.size))
        go_wp2_with fail
        refine (HST.out).mono ?_
        rintro e w3 ⟨rfl, T3, own3, b3⟩
        have B3 := B2.trans b3
        clear t0 t1 T2 own2 b3 HST
        obtain ⟨q, hq⟩ : ∃ q, q = !overR x ds := ⟨_, rfl⟩
        rw [← hq]
        rcases Bool.eq_false_or_eq_true (overR x ds) with ho | ho
        · rw [ho] at hq
          subst hq
          have HF : Hid (runR xs bd 0 0 cs = none) := HR.out.trans (runR_over HX.out ho _)
          clear T3 own3 ho
          go_wp2_with fail
          go_ret3
          exact ⟨by rw [HF.out]; rfl, B3⟩
        · rw [ho] at hq
          subst hq
          obtain ⟨hok, j, hj, hjn⟩ := step_ok HD.out hr hk hxc hxd HV.out hv0 ho
          have HRN : Hid (runR xs bd 0 0 cs = runR xs f (k + 1) j (stepR x ds).2) := HR.out.trans (runR_step HX.out ho hj _)
          have HOK := Lib.hid hok
          rw [hj] at T3
          obtain ⟨es, hes⟩ : ∃ es, es = (stepR x ds).2 := ⟨_, rfl⟩
          rw [← hes] at own3 HRN HOK
          clear hes ho hok hj
          go_wp2_with fail
          go_roundw
          case rel => exact ⟨k + 1, f, j, es, by omega, by go_num, T3, own3, B3, hjn, HOK, HRN⟩
          case measure => simp [intOf]; omega
end Go.Proofs.YtjggkgdojhlhpaaGreat

/- The first store, by the program. -/
namespace Go.Proofs.YtjggkgdojhlhpaaGreat
open Go.RowKit
set_option linter.all false

section
variable {P : Program}
theorem wpList_copy_all {w : World} {ops : Array Oper} {rest : List Oper} {o : Oper} {a : Act} {Q : Exit → Act → World → Prop} (hgd : o.guard = none) (d s : Operand) (dT sT : TypeId)
    (ho : o.op = .call { callee := .builtin .copy, args := #[d, s], argTypes := #[dT, sT] }) (elem : TypeId) (hu : P.underlying dT = some (.slice elem)) {z : Nat} (hsz : (P.info? elem).map (·.size) = some z)
    (g off dLen dCap : Nat) (ad : Addr) (sLen sCap : Nat) (hd : a.eval d = .slice (some ⟨g, off, none⟩) dLen dCap) (hs : a.eval s = .slice (some ad) sLen sCap)
    (cur : List Value) (t : TypeId) (hg : w.heap[g]? = some (.cells cur.toArray t (0, 0))) (m : Nat) (hm : Nat.min sLen dLen = m) (cs : List Value) (hn : cs.length = m * z)
    (hsrc : ∀ j v, cs[j]? = some v → w.cell? (ad.add j) = some v) (hfit : off + cs.length ≤ cur.length) (h1 : ∀ v ∈ cs, v.oneCell' = true) (B : Nat) (w0 : World) (hb : Below B w0 w) (hBg : B ≤ g)
    (h : ∀ w', Hid (w'.heap[g]? = some (.cells (cur.take off ++ cs ++ cur.drop (off + cs.length)).toArray t (0, 0))) → Hid (∀ k, k ≠ g → w'.heap[k]? = w.heap[k]?) → Below B w0 w' → wpList P ops Q rest (a.put o.dst (goInt m)) w') : wpList P ops Q (o :: rest) a w := by
  refine wpList_plain hgd fun K hK => ?_
  have hrun := run_copy_rows (P := P) w dT sT o.type elem g off dLen dCap ad sLen sCap z m cur.toArray t cs hu hsz hg hm hn hsrc (by simpa using hfit) h1
  unfold Oper.wp
  simp [execOp, ho, resolve, invoke, builtin, hd, hs, hrun, Result.andThen]
  refine hK _ _ (h _ ?_ (fun k hk => setRow_other w g k _ hk) (below_setRow hb hBg _))
  have := setRow_heap w g _ (cur.take off ++ (cs ++ cur.drop (off + cs.length))).toArray t _ hg
  simpa [Hid] using this
end

theorem allWithinR_is (b off n c : Nat) (xs : List Int) (lo hi : Int) (v : Bool) (hv : xs.all (fun x => inB x lo hi) = v) (w : World) (hs : Sl w b off (xs.map (.int .i64))) (hl : xs.length = n) (hn : n ≤ 4194304) :
    Calls Tryz.prog 29 #[.slice (some ⟨b, off, none⟩) n c, .int .i64 lo, .int .i64 hi] w fun e w' => e = .returned (.bool v) ∧ w = w' := by
  subst hv; exact allWithin_any b off n c xs lo hi w hs hl hn

set_option maxRecDepth 100000 in
set_option maxHeartbeats 1000000 in
theorem startStore_any (A : Option Addr) (np cp : Nat) (P : List R4) (b1 o1 n1 c1 : Nat) (x : List Int) (w : World) (hp : Args 4 w A np (rows R4.vs P)) (hnp : np ≤ 1048576) (hv : validP P = true) (hs1 : Sl w b1 o1 (x.map (.int .i64))) (hl1 : x.length = n1) (hn1 : n1 ≤ 24) (hx : x.all (fun x => inB x 0 1000000) = true) :
    Calls Tryz.prog 16 #[.slice A np cp, .slice (some ⟨b1, o1, none⟩) n1 c1] w fun e w' => ∃ g, e = .returned (.tuple #[.agg #[.int .i64 0, .slice (some ⟨g, 0, none⟩) 24 24], .int .i64 0]) ∧ w'.ownsRow w.heap.size 2 1 (.slice (some ⟨g, 0, none⟩) 24 24) 24 ((startR x).map (.int .i64)) ∧ Below w.heap.size w w' := by
  have HL1 := Lib.hid hl1; clear hl1
  have HV := Lib.hid hv; clear hv
  have HX := Lib.hid hx; clear hx
  have HI : Hid ((Tryz.prog.info? 2).map (·.size) = some 1) := by unfold Hid; obtain ⟨i, h1, _, h3, _⟩ := info_parts infoInt64S; rw [h1]; simp [h3]
  have hmk := fun W => run_make_rows (P := Tryz.prog) 23 2 _ 1 8 Tryz.underlying23 infoInt64S .i64 .i64 24 (by omega) (by omega) W
  have e24 : ((24 : Nat) : Int) = 24 := rfl
  obtain ⟨zs, HZ⟩ : ∃ zs : List Value, Hid ((List.replicate 24 (0 : Int)).map (Value.int .i64) = zs) := ⟨_, rfl⟩
  have HZL : Hid (zs.length = 24) := by unfold Hid; rw [← HZ.out]; simp
  simp only [made_zero1, rows_oneI, e24, HZ.out] at hmk
  clear e24
  have HK : Hid (Nat.min n1 24 = n1) := Nat.min_eq_left hn1
  have HONE : Hid (∀ u ∈ x.map (Value.int .i64), u.oneCell' = true) := one_ints .i64 x
  obtain ⟨w0, HW0, B0, x0⟩ := al1 w (.cells #[.int .i64 0, .slice none 0 0] 43)
  have x0w := heap_lt x0
  go_enter Tryz.func16, Tryz.ntmps16
  go_wp2_with fail
  rw [← HW0.out]
  refine (validProgram_is A np cp P true HV.out _ (hp.below B0) hnp).mono ?_
  rintro e w1 ⟨rfl, b1'⟩
  have hs2 := (hs1.below' B0).below' b1'
  have x1 := (b1'.block _ x0w).trans x0
  have hsz1 := b1'.size
  go_wp2_with fail
  refine (allWithinR_is b1 o1 n1 c1 x 0 1000000 true HX.out _ hs2 HL1.out (by omega)).mono ?_
  rintro e w' ⟨rfl, rfl⟩
  obtain ⟨w2, HW2, L3, G2, T2⟩ := al2 w1 (.cells zs.toArray 2) (.cells #[.int .i64 0, .slice (some ⟨w1.heap.size, 0, none⟩) 24 24] 43)
  have R2 := (L3.block _ (heap_lt x1)).trans x1
  have S2 := hs2.below' L3
  have HSRC := Lib.hid (fun j v (hv : (x.map (Value.int .i64))[j]? = some v) => (by rw [addr_add]; exact S2.at hv : w2.cell? ((⟨b1, o1, none⟩ : Addr).add j) = some v))
  have HL3 := Lib.hid L3
  have HG2 := Lib.hid G2
  have HT2 := Lib.hid T2
  have HR2 := Lib.hid R2
  clear S2 G2 T2 R2 L3
  have HW2e := HW2.out
  clear HW2
  subst HW2e
  have hRne : w.heap.size ≠ w1.heap.size := by omega
  have hTne : w1.heap.size + 1 ≠ w1.heap.size := by omega
  have HLN : Hid ((x.map (Value.int .i64)).length = n1 * 1) := by have := HL1.out; unfold Hid; rw [List.length_map]; omega
  go_wp2_with (refine wpList_copy_all (o := ⟨some 25, _, _, _, _, _⟩) rfl (.tmp 23) (.tmp 24) 23 23 rfl 2 Tryz.underlying23 HI.out w1.heap.size 0 24 24 ⟨b1, o1, none⟩ n1 c1 rfl rfl zs 2 HG2.out n1 HK.out (x.map (Value.int .i64)) HLN.out HSRC.out (by rw [HLN.out, HZL.out]; omega) HONE.out w1.heap.size w1 HL3.out (Nat.le_refl _) ?_; intro w4 HG4 HO4 hB4; have T4 := (HO4.out _ hTne).trans HT2.out; have R4 := (HO4.out _ hRne).trans HR2.out; have e0 : w4.cell? ⟨w1.heap.size + 1, 0, none⟩ = some (.int .i64 0) := (by rw [cell_of_heap T4]; rfl); have e1 : w4.cell? ⟨w1.heap.size + 1, 1, none⟩ = some (.slice (some ⟨w1.heap.size, 0, none⟩) 24 24) := (by rw [cell_of_heap T4]; rfl); have m0 : w4.cell? ⟨w.heap.size, 0, none⟩ = some (.int .i64 0) := (by rw [cell_of_heap R4]; rfl); have m1 : w4.cell? ⟨w.heap.size, 1, none⟩ = some (.slice none 0 0) := (by rw [cell_of_heap R4]; rfl); have f0 : w4.frozen? ⟨w.heap.size, 0, none⟩ = false := frozen_of_heap R4; have f1 : w4.frozen? ⟨w.heap.size, 1, none⟩ = false := frozen_of_heap R4)
  have own4 : w4.ownsRow w1.heap.size 2 1 (.slice (some ⟨w1.heap.size, 0, none⟩) 24 24) 24 ((startR x).map (.int .i64)) := by
    have hl := HL1.out
    have e : List.take 0 zs ++ x.map (Value.int .i64) ++ List.drop (0 + (x.map (Value.int .i64)).length) zs = (startR x).map (Value.int .i64) := by
      rw [← HZ.out]; unfold startR
      rw [List.take_zero, List.nil_append, List.length_map, Nat.zero_add, ← List.map_drop, List.drop_replicate, ← List.map_append]
    have hg := HG4.out
    rw [e] at hg
    have hs : ((startR x).map (Value.int .i64)).length = 24 * 1 := by unfold startR; simp; omega
    have := own_of_block (n := 24) hg (Nat.le_refl _) hs (Nat.le_refl _) (by unfold maxLen; omega)
    rwa [List.take_of_length_le (by omega)] at this
  have B4 := below_step (below_step B0 b1') hB4
  have hw0 := B0.size
  clear HG4 HO4 hB4 T4 R4
  go_wp2_with fail
  refine bodyPost_ret (v := .tuple #[.agg #[.int .i64 0, .slice (some ⟨w1.heap.size, 0, none⟩) 24 24], .int .i64 0]) (by simp [results, Tryz.results16, go_sem, m0, m1]) rfl ?_
  refine ⟨w1.heap.size, rfl, ?_, (B4.setCell (p := ⟨w.heap.size, 0, none⟩) (Nat.le_refl _) _).setCell (p := ⟨w.heap.size, 1, none⟩) (Nat.le_refl _) _⟩
  exact own_base (own_set_far (own_set_far own4 ⟨w.heap.size, 0, none⟩ (.int .i64 0) (by dsimp only; omega)) ⟨w.heap.size, 1, none⟩ (.slice (some ⟨w1.heap.size, 0, none⟩) 24 24) (by dsimp only; omega)) (by omega)
end Go.Proofs.YtjggkgdojhlhpaaGreat

/- RunFuncProgram of the program. -/
namespace Go.Proofs.YtjggkgdojhlhpaaGreat
open Go.RowKit
set_option linter.all false

theorem budgetOkR_is (n : Int) (v : Bool) (hv : inB n 1 20000 = v) (w : World) : Calls Tryz.prog 27 #[.int .i64 n] w fun e w' => e = .returned (.bool v) ∧ w = w' := by
  have HV := Lib.hid hv; clear hv
  go_enter Tryz.func27, Tryz.ntmps27
  go_wp2_with fail
  refine (within_is n 1 20000 v HV.out _).mono ?_
  rintro e w' ⟨rfl, rfl⟩
  go_wp2_with fail
  go_ret
  exact ⟨rfl, rfl⟩
theorem sizeInt64R_any (A : Option Addr) (n c : Nat) (w : World) : Calls Tryz.prog 28 #[.slice A n c] w fun e w' => e = .returned (.int .i64 n) ∧ w = w' := by
  go_enter Tryz.func28, Tryz.ntmps28
  go_wp2
  go_ret
  exact ⟨rfl, rfl⟩

set_option maxRecDepth 100000 in
set_option maxHeartbeats 1000000 in
theorem argsCode_any (b off n c : Nat) (f : List R3) (b1 o1 n1 c1 : Nat) (x : List Int) (bd : Int) (w : World) (hs : Sl w b off (rows R3.vs f)) (hl : f.length = n) (hn : n ≤ 1048576) (hs1 : Sl w b1 o1 (x.map (.int .i64))) (hl1 : x.length = n1) (hn1 : n1 ≤ 1048576) :
    Calls Tryz.prog 14 #[.slice (some ⟨b, off, none⟩) n c, .slice (some ⟨b1, o1, none⟩) n1 c1, .int .i64 1000000, .int .i64 bd] w fun e w' => (∃ z : Int, Hid (z = askR f x bd) ∧ e = .returned (.int .i64 z)) ∧ Below w.heap.size w w' := by
  have HL := Lib.hid hl; have HL1 := Lib.hid hl1
  have ha : Args 3 w (some ⟨b, off, none⟩) n (rows R3.vs f) := Args.of_sl hs (by rw [rows_len R3.vs_len]; omega)
  clear hl hl1
  rcases Bool.eq_false_or_eq_true (validF f) with h1 | h1
  rotate_left
  · have HV := Lib.hid h1
    have HZ : Hid ((1 : Int) = askR f x bd) := by unfold Hid askR; rw [h1]; rfl
    clear h1
    go_enter Tryz.func14, Tryz.ntmps14
    go_wp2_with fail
    refine (validFunc_is _ n c f false HV.out _ ha hn).mono ?_
    rintro e w1 ⟨rfl, hb⟩
    go_wp2_with fail
    go_ret
    exact ⟨⟨1, HZ, rfl⟩, hb⟩
  obtain ⟨y, l, hf, -, hyb, ha4, -⟩ := validF_head h1
  have HV := Lib.hid h1; clear h1
  obtain ⟨na, hna⟩ : ∃ na, na = ar0 f := ⟨_, rfl⟩
  rw [← hna] at hyb ha4
  have HNA := Lib.hid hna; clear hna
  have h0 : f[0]? = some y := by rw [hf]; rfl
  have hn0 : 0 < n := by have := HL.out; rw [hf] at this; simp at this; omega
  have hn0i : (0 : Int) < (n : Int) := by omega
  have hq : w.cell? ⟨b, off + 1, none⟩ = some (.int .i64 na) := by
    have := (hs.rec3 h0).2.1
    rw [hyb] at this
    simpa using this
  clear hf h0
  have HS1 := Lib.hid (fun W (hW : Below w.heap.size w W) => hs1.below' hW)
  have hz2 : argsOk f x bd = false → Hid ((2 : Int) = askR f x bd) := by intro h; unfold Hid askR; rw [HV.out, h]; rfl
  have HZ2 := Lib.hid hz2; clear hz2
  obtain ⟨vb, hvb⟩ : ∃ vb, vb = inB bd 1 20000 := ⟨_, rfl⟩
  obtain ⟨va, hva⟩ : ∃ va, va = x.all (fun x => inB x 0 1000000) := ⟨_, rfl⟩
  have HB := Lib.hid hvb.symm
  have HC := Lib.hid hva.symm
  have main : ∀ (z : Int), Hid (z = askR f x bd) → ((z = 2 ∧ vb = false) ∨ (z = 2 ∧ vb = true ∧ n1 ≠ na) ∨ (z = 2 ∧ vb = true ∧ n1 = na ∧ va = false) ∨ (z = 0 ∧ vb = true ∧ n1 = na ∧ va = true)) → Calls Tryz.prog 14 #[.slice (some ⟨b, off, none⟩) n c, .slice (some ⟨b1, o1, none⟩) n1 c1, .int .i64 1000000, .int .i64 bd] w fun e w' => (∃ z : Int, Hid (z = askR f x bd) ∧ e = .returned (.int .i64 z)) ∧ Below w.heap.size w w' := by
    intro z HZ hcs
    clear hvb hva HZ2
    rcases hcs with ⟨rfl, rfl⟩ | ⟨rfl, rfl, h3⟩ | ⟨rfl, rfl, rfl, rfl⟩ | ⟨rfl, rfl, rfl, rfl⟩
    · go_enter Tryz.func14, Tryz.ntmps14
      go_wp2_with fail
      refine (validFunc_is _ n c f true HV.out _ ha hn).mono ?_
      rintro e w1 ⟨rfl, hb⟩
      have hq1 := cell_step hq hb
      go_wp2_with fail
      go_quiet (((go_at_call 27; first | exact quiet_eq (budgetOkR_is bd false HB.out _) | exact quiet_eq2 (budgetOkR_is bd false HB.out _))))
      go_wp2_with fail
      go_ret
      exact ⟨⟨2, HZ, rfl⟩, below_drewN hb _⟩
    · have h3b : ((n1 : Int) == (na : Int)) = false := by simpa using (show ¬ (n1 : Int) = na by omega)
      have h3i : ¬ (n1 : Int) = (na : Int) := by omega
      go_enter Tryz.func14, Tryz.ntmps14
      go_wp2_with fail
      refine (validFunc_is _ n c f true HV.out _ ha hn).mono ?_
      rintro e w1 ⟨rfl, hb⟩
      have hq1 := cell_step hq hb
      go_wp2_with fail
      go_quiet ((first | (go_at_call 27; first | exact quiet_eq (budgetOkR_is bd true HB.out _) | exact quiet_eq2 (budgetOkR_is bd true HB.out _)) | (go_at_call 28; first | exact quiet_eq (sizeInt64R_any _ n1 c1 _) | exact quiet_eq2 (sizeInt64R_any _ n1 c1 _))))
      go_wp2_with fail
      go_ret
      exact ⟨⟨2, HZ, rfl⟩, below_drewN hb _⟩
    · go_enter Tryz.func14, Tryz.ntmps14
      go_wp2_with fail
      refine (validFunc_is _ n c f true HV.out _ ha hn).mono ?_
      rintro e w1 ⟨rfl, hb⟩
      have hq1 := cell_step hq hb
      have hs2 := HS1.out _ hb
      go_wp2_with fail
      go_quiet ((first | (go_at_call 27; first | exact quiet_eq (budgetOkR_is bd true HB.out _) | exact quiet_eq2 (budgetOkR_is bd true HB.out _)) | (go_at_call 28; first | exact quiet_eq (sizeInt64R_any _ n1 c1 _) | exact quiet_eq2 (sizeInt64R_any _ n1 c1 _)) | (go_at_call 29; first | exact quiet_eq (allWithinR_is b1 o1 n1 c1 x 0 1000000 false HC.out _ (by exact hs2) HL1.out (by omega)) | exact quiet_eq2 (allWithinR_is b1 o1 n1 c1 x 0 1000000 false HC.out _ (by exact hs2) HL1.out (by omega)))))
      go_wp2_with fail
      go_ret
      exact ⟨⟨2, HZ, rfl⟩, below_drewN hb _⟩
    · go_enter Tryz.func14, Tryz.ntmps14
      go_wp2_with fail
      refine (validFunc_is _ n c f true HV.out _ ha hn).mono ?_
      rintro e w1 ⟨rfl, hb⟩
      have hq1 := cell_step hq hb
      have hs2 := HS1.out _ hb
      go_wp2_with fail
      go_quiet ((first | (go_at_call 27; first | exact quiet_eq (budgetOkR_is bd true HB.out _) | exact quiet_eq2 (budgetOkR_is bd true HB.out _)) | (go_at_call 28; first | exact quiet_eq (sizeInt64R_any _ n1 c1 _) | exact quiet_eq2 (sizeInt64R_any _ n1 c1 _)) | (go_at_call 29; first | exact quiet_eq (allWithinR_is b1 o1 n1 c1 x 0 1000000 true HC.out _ (by exact hs2) HL1.out (by omega)) | exact quiet_eq2 (allWithinR_is b1 o1 n1 c1 x 0 1000000 true HC.out _ (by exact hs2) HL1.out (by omega)))))
      go_wp2_with fail
      go_ret
      exact ⟨⟨0, HZ, rfl⟩, below_drewN hb _⟩
  have hal : decide ((x.length : Int) = (ar0 f : Int)) = decide (n1 = na) := by rw [HL1.out, ← HNA.out]; apply Bool.eq_iff_iff.2; simp; omega
  cases hb : vb with
  | false =>
    rw [hb] at hvb
    exact main 2 (HZ2.out (by unfold argsOk; rw [← hvb]; rfl)) (.inl ⟨rfl, hb⟩)
  | true =>
    rw [hb] at hvb
    by_cases h3 : n1 = na
    · cases hv : va with
      | false =>
        rw [hv] at hva
        exact main 2 (HZ2.out (by unfold argsOk; rw [← hva]; simp)) (.inr (.inr (.inl ⟨rfl, hb, h3, hv⟩)))
      | true =>
        rw [hv] at hva
        exact main 0 (by unfold Hid askR argsOk; rw [HV.out, ← hvb, ← hva, hal, decide_eq_true h3]; rfl) (.inr (.inr (.inr ⟨rfl, hb, h3, hv⟩)))
    · exact main 2 (HZ2.out (by unfold argsOk; rw [← hvb, hal, decide_eq_false h3]; rfl)) (.inr (.inl ⟨rfl, hb, h3⟩))
end Go.Proofs.YtjggkgdojhlhpaaGreat

/- RunFuncProgram of the program: the whole. -/
namespace Go.Proofs.YtjggkgdojhlhpaaGreat
open Go.RowKit
set_option linter.all false

set_option maxRecDepth 100000 in
set_option maxHeartbeats 1000000 in
theorem implRunFuncProgram_any (b off n c : Nat) (f : List R3) (b1 o1 n1 c1 : Nat) (x : List Int) (bd : Int) (w : World) (hs : Sl w b off (rows R3.vs f)) (hl : f.length = n) (hn : n ≤ 1048576) (hc : n ≤ c) (hf : ∀ x ∈ f, x.wf) (hs1 : Sl w b1 o1 (x.map (.int .i64))) (hl1 : x.length = n1) (hn1 : n1 ≤ 1048576) (wf1 : Wf64s x) (wf2 : Wf64 bd) :
    Calls Tryz.prog 8 #[.slice (some ⟨b, off, none⟩) n c, .slice (some ⟨b1, o1, none⟩) n1 c1, .int .i64 bd] w fun e w' => e = .returned (.tuple #[.int .i64 (runFuncProgram f x bd).1, .int .i64 (runFuncProgram f x bd).2.1, .int .i64 (runFuncProgram f x bd).2.2]) ∧ Below w.heap.size w w' := by
  clear wf1 wf2
  have HL := Lib.hid hl; have HL1 := Lib.hid hl1
  clear hl hl1
  go_enter Tryz.func8, Tryz.ntmps8
  go_wp2_with fail
  refine (argsCode_any b off n c f b1 o1 n1 c1 x bd _ hs HL.out hn hs1 HL1.out hn1).mono ?_
  rintro e w1 ⟨⟨z, HZ, rfl⟩, bw1⟩
  by_cases hz : z = 0
  rotate_left
  · have HF := Lib.hid (runF_no HZ.out hz)
    go_wp2_with fail
    go_ret3
    exact ⟨ends3i (by rw [HF.out]), bw1⟩
  subst hz
  obtain ⟨hV, hA, hF⟩ := runF_yes HZ.out
  have HF := Lib.hid hF
  obtain ⟨⟨hb1, hb2⟩, hxl, hxa⟩ := argsOk_parts hA
  obtain ⟨k, rfl⟩ : ∃ k : Nat, bd = (k : Int) := ⟨bd.toNat, by omega⟩
  obtain ⟨y, l, -, -, -, ha4, -⟩ := validF_head hV
  have hn4 : n1 ≤ 4 := by have := HL1.out; omega
  have HOC := Lib.hid (startR_ok (by omega) hxa)
  have HXA := Lib.hid hxa
  have hs2 := hs.below' bw1
  have hs12 := hs1.below' bw1
  clear hV hA hF hxl hxa ha4
  go_wp2_with fail
  refine (implProgramOfFunc_any b off n c f _ hs2 HL.out hn hc hf).mono ?_
  rintro e w2 ⟨pv, rfl, own2, bw2⟩
  obtain ⟨A, cp, rfl⟩ := own_form own2
  have B2 := below_step bw1 bw2
  obtain ⟨z, hz⟩ : ∃ z, z = (progOfFunc f).2 := ⟨_, rfl⟩
  rw [← hz]
  have HPZ := Lib.hid hz.symm; clear hz
  obtain ⟨np, hnp⟩ : ∃ np, np = (progOfFunc f).1.length := ⟨_, rfl⟩
  rw [← hnp] at own2 ⊢
  have HNP := Lib.hid hnp.symm; clear hnp
  by_cases hz0 : z = 0
  rotate_left
  · have HR : Hid (regsR f x (k : Int) = ((0 : Int), (0 : Int), z)) := regsR_no HPZ.out hz0
    go_wp2_with fail
    go_ret3
    exact ⟨ends3i (by rw [HF.out, HR.out]), B2⟩
  subst hz0
  have HOP : Hid (OkP np (progOfFunc f).1) := by unfold Hid; have := okP_of HPZ.out; rwa [HNP.out] at this
  have hnp4 : np ≤ 400 := by have := (progOfFunc_ok HPZ.out).2.1; rw [HNP.out] at this; exact this
  have HVP := Lib.hid (progOfFunc_ok HPZ.out).1
  have hpa := args_of_own own2
  have hpb : ∀ b' off', A = some ⟨b', off', none⟩ → 0 < np → b' < w2.heap.size := by
    intro b' off' hA _
    subst hA
    exact (own2.lt b' rfl).2
  have HPB := Lib.hid hpb; clear hpb
  have hs13 := hs12.below' bw2
  obtain ⟨P, hP⟩ : ∃ P, Hid ((progOfFunc f).1 = P) := ⟨_, rfl⟩
  rw [hP.out] at own2 HOP hpa HVP
  go_wp2_with fail
  refine (startStore_any A np cp P b1 o1 n1 c1 x _ hpa (by omega) HVP.out hs13 HL1.out (by omega) HXA.out).mono ?_
  rintro e w3 ⟨g, rfl, own3, bw3⟩
  have B3 := below_step B2 bw3
  obtain ⟨w4, HW4, bw4, T4⟩ := al1 w3 (.cells #[.int .i64 0, .slice (some ⟨g, 0, none⟩) 24 24] 43)
  have own4 := own_below' own3 bw4
  have hgl := (own3.lt g rfl).2
  have hgg := (own3.lt g rfl).1
  have bw34 := below_step bw3 bw4
  have B4 := below_step B3 bw4
  have hs34 := bw34.size
  have hs24 := bw3.size
  have hpa4 := hpa.below bw34
  have hB2 := B2.size
  clear own2 hpa hs2 hs12 hs13 hs hs1 own3
  go_wp2_with fail
  rw [← HW4.out]
  refine (runStore_any A np cp P w3.heap.size g 24 w2.heap.size (startR x) k _ hpa4 HPB.out HOP.out (by omega) HOC.out (by omega) T4 own4 (by omega) hs24 hs34).mono ?_
  rintro e w5 ⟨hout, bw5⟩
  have B5 := B4.trans (bw5.mono hB2)
  cases hR : runR P k 0 0 (startR x) with
  | none =>
    rw [hR] at hout
    have HR : Hid (regsR f x (k : Int) = ((0 : Int), (0 : Int), (5 : Int))) := regsR_full HPZ.out (by rw [hP.out]; exact hR)
    obtain rfl := hout
    clear hR
    go_wp2_with fail
    go_ret3
    exact ⟨ends3i (by rw [HF.out, HR.out]), B5⟩
  | some r =>
    obtain ⟨m, i, cs⟩ := r
    rw [hR] at hout
    have HRR := Lib.hid hR; clear hR
    obtain ⟨rfl, T5, own5⟩ := hout
    by_cases hi : i = np
    rotate_left
    · have HR : Hid (regsR f x (k : Int) = ((0 : Int), (0 : Int), (5 : Int))) := regsR_stop HPZ.out (by rw [hP.out]; exact HRR.out) (by rw [HNP.out]; exact hi)
      rw [decide_eq_false hi]
      go_wp2_with fail
      go_ret3
      exact ⟨ends3i (by rw [HF.out, HR.out]), B5⟩
    · have hcl : cs.length = 24 := by have := own5.1; rw [List.length_map] at this; omega
      obtain ⟨v, hv⟩ : ∃ v, cs[n1]? = some v := ⟨_, List.getElem?_eq_getElem (by omega)⟩
      have HR : Hid (regsR f x (k : Int) = (v, (m : Int), (0 : Int))) := regsR_done HPZ.out (by rw [hP.out]; exact HRR.out) (by rw [HNP.out]; exact hi) (by rw [HL1.out]; exact hv)
      rw [decide_eq_true hi]
      have cv : w5.cell? ⟨g, n1, none⟩ = some (.int .i64 v) := by
        have := (sl_of_own own5).at (j := n1) (u := .int .i64 v) (by rw [List.getElem?_map, hv]; rfl)
        simpa using this
      have t1 : w5.cell? ⟨w3.heap.size, 1, none⟩ = some (.slice (some ⟨g, 0, none⟩) 24 24) := by rw [cell_of_heap T5]; rfl
      have ir0 : (0 : Int) ≤ (n1 : Int) := by omega
      have ir1 : (n1 : Int) < (24 : Int) := by omega
      have HI := Lib.hid hi
      clear hi own5 hcl hv
      go_wp2_with fail
      go_ret3
      exact ⟨ends3i (by rw [HF.out, HR.out]), B5⟩
end Go.Proofs.YtjggkgdojhlhpaaGreat

/- The walk of the law FnExactRunFuncProgram: it returns true, whatever the arguments, and writes nothing that was there. -/
namespace Go.Proofs.YtjggkgdojhlhpaaGreat
open Go.RowKit

set_option maxRecDepth 100000 in
set_option maxHeartbeats 2000000 in
theorem walkRunFuncProgram (A0 : Option Addr) (n0 c0 : Nat) (x0 : List R3) (A1 : Option Addr) (n1 c1 : Nat) (x1 : List Int) (x2 : Int) (w : World) (h0 : Args 3 w A0 n0 (rows R3.vs x0)) (m0 : n0 ≤ maxLen) (f0 : ∀ x ∈ x0, x.wf) (h1 : Arg w A1 n1 (x1.map (Value.int .i64))) (m1 : n1 ≤ maxLen) (f1 : Wf64s x1) (f2 : Wf64 x2) :
    Calls Tryz.prog 3 #[.slice A0 n0 c0, .slice A1 n1 c1, .int .i64 x2] w fun e w' => e = .returned (.bool true) ∧ Below w.heap.size w w' := by
  unfold maxLen at m0
  unfold maxLen at m1
  by_cases s1 : n1 ≤ 1048576
  rotate_left
  · go_enter Tryz.func3, Tryz.ntmps3
    go_wp2_with fail
    go_ret
    exact ⟨rfl, Below.refl _ _⟩
  have H0 : Hid (x0.length = n0) := by have := h0.1; rw [rows_len R3.vs_len] at this; unfold Hid; omega
  have H1 : Hid (x1.length = n1) := by have := h1.1; rw [List.length_map] at this; exact this
  by_cases z0 : n0 ≤ 1048576
  rotate_left
  · go_enter Tryz.func3, Tryz.ntmps3
    go_wp2_with fail
    refine (szFuncS_not A0 n0 c0 1048576 _ (by omega) (by omega) (by omega)).mono ?_
    rintro e w' ⟨rfl, rfl⟩
    go_wp2_with fail
    go_ret
    exact ⟨rfl, Below.refl _ _⟩
  obtain ⟨r0, R0⟩ : ∃ r : Nat, Hid (r + n0 = 1048576) := ⟨1048576 - n0, by unfold Hid; omega⟩
  have q0 : r0 ≤ 1048576 := by have := R0.out; omega
  have s0 : n0 ≤ 1048576 := by omega
  have Z0 := Lib.hid z0; clear z0
  go_enter Tryz.func3, Tryz.ntmps3
  go_wp2_with fail
  refine (szFuncS_is A0 n0 c0 1048576 r0 _ R0.out (by omega)).mono ?_
  rintro e w' ⟨rfl, rfl⟩
  have B0 : Below w.heap.size w w := Below.refl _ _
  go_wp2_with fail
  refine (toFuncS_any A0 n0 c0 x0 _ (h0.below B0) s0).mono ?_
  rintro e w1 ⟨rfl, s0x_1, b1⟩
  have B1 := below_step B0 b1
  go_wp2_with fail
  refine (toInt64S_any A1 n1 c1 x1 _ (h1.below B1) s1).mono ?_
  rintro e w2 ⟨rfl, s1x_2, b2⟩
  have B2 := below_step B1 b2
  have s0x_2 := own_below' s0x_1 b2
  go_wp2_with fail
  refine (specRunFuncProgram_any _ _ n0 n0 x0 _ _ n1 n1 x1 x2 _ (sl_of_own s0x_2) H0.out s0 (Nat.le_refl _) f0 (sl_of_own s1x_2) H1.out s1 f1 f2).mono ?_
  rintro e w3 ⟨rfl, b3⟩
  have B3 := below_step B2 b3
  have s0x_3 := own_below' s0x_2 b3
  have s1x_3 := own_below' s1x_2 b3
  go_wp2_with fail
  refine (toFuncS_any A0 n0 c0 x0 _ (h0.below B3) s0).mono ?_
  rintro e w4 ⟨rfl, u0x_4, b4⟩
  have B4 := below_step B3 b4
  go_wp2_with fail
  refine (toInt64S_any A1 n1 c1 x1 _ (h1.below B4) s1).mono ?_
  rintro e w5 ⟨rfl, u1x_5, b5⟩
  have B5 := below_step B4 b5
  have u0x_5 := own_below' u0x_4 b5
  go_wp2_with fail
  refine (implRunFuncProgram_any _ _ n0 n0 x0 _ _ n1 n1 x1 x2 _ (sl_of_own u0x_5) H0.out s0 (Nat.le_refl _) f0 (sl_of_own u1x_5) H1.out s1 f1 f2).mono ?_
  rintro e w6 ⟨rfl, b6⟩
  have B6 := below_step B5 b6
  have u0x_6 := own_below' u0x_5 b6
  have u1x_6 := own_below' u1x_5 b6
  go_wp2_with fail
  refine (toFuncS_any A0 n0 c0 x0 _ (h0.below B6) s0).mono ?_
  rintro e w7 ⟨rfl, t0x_7, b7⟩
  have B7 := below_step B6 b7
  have u0x_7 := own_below' u0x_6 b7
  have u1x_7 := own_below' u1x_6 b7
  go_wp2_with fail
  refine (eqFuncS_any _ _ _ _ _ _ _ _ _ (args_of_own u0x_7) (args_of_own t0x_7) (by omega) (by omega)).mono ?_
  rintro e w8 ⟨rfl, b8⟩
  have B8 := below_step B7 b8
  have u0x_8 := own_below' u0x_7 b8
  have u1x_8 := own_below' u1x_7 b8
  have t0x_8 := own_below' t0x_7 b8
  go_wp2_with fail
  refine (toInt64S_any A1 n1 c1 x1 _ (h1.below B8) s1).mono ?_
  rintro e w9 ⟨rfl, t1x_9, b9⟩
  have B9 := below_step B8 b9
  have u0x_9 := own_below' u0x_8 b9
  have u1x_9 := own_below' u1x_8 b9
  go_wp2_with fail
  refine (eqInt64S_any _ _ _ _ _ _ _ _ _ (arg_of_own u1x_9) (arg_of_own t1x_9) (by omega) (by omega)).mono ?_
  rintro e w10 ⟨rfl, q10, hq⟩
  have b10 := quiet_below hq
  clear hq q10
  have B10 := below_step B9 b10
  have u0x_10 := own_below' u0x_9 b10
  have u1x_10 := own_below' u1x_9 b10
  have t1x_10 := own_below' t1x_9 b10
  go_wp2_with fail
  go_ret
  exact ⟨rfl, B10⟩
end Go.Proofs.YtjggkgdojhlhpaaGreat
