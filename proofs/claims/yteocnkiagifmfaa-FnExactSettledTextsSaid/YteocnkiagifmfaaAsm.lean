/- Register programs in the making: redirected, and the methods inc, dec, part, done of an assembly. -/
import Derived.Test.YteocnkiagifmfaaInstr
import Derived.Deep.RegionLaw
namespace Go.Proofs.Yteocnkiagifmfaa
open Go.RowKit
set_option linter.all false
attribute [local go_sem ↓] Go.wp_at_zero Go.wp_at_succ

/-- New targets. -/
def redirF (f : Int → Int) (x : R4) : R4 := ⟨x.a, x.b, f x.c, if x.a = 1 then f x.d else x.d⟩
def tgt (n : Nat) (halt by_ : Int) (y : Int) : Int := if y = n then halt else y + by_
theorem own_addr {w : World} {base : Nat} {e : TypeId} {size n cap : Nat} {A : Option Addr} {xs : List Value} (h : w.ownsRow base e size (.slice A n cap) n xs) (hn : 0 < n) : ∃ g, A = some ⟨g, 0, none⟩ ∧ base ≤ g ∧ g < w.heap.size := by
  rcases h.2 with ⟨_, h0⟩ | ⟨g, cap', cur, hv, hb, hg, _⟩
  · omega
  · injection hv with h1 h2 h3
    exact ⟨g, h1, hb, heap_lt hg⟩
theorem cell_set_far {w : World} {p q : Addr} {u v : Value} (h : w.cell? q = some v) (hne : q.block ≠ p.block) : (w.setCell p u).cell? q = some v := by
  unfold World.cell? at h ⊢
  rw [Below.heap_setCell w p u q.block hne]
  exact h
theorem redir_at {f : Int → Int} {xs : List R4} {k : Nat} {x : R4} (hx : xs[k]? = some x) : ((xs.take k).map (redirF f) ++ xs.drop k)[k]? = some x := by
  have hk := (List.getElem?_eq_some_iff.1 hx).1
  rw [List.getElem?_append_right (by simp; omega), List.length_map, List.length_take, Nat.min_eq_left (by omega), Nat.sub_self, List.getElem?_drop]
  exact hx
theorem redir_set {f : Int → Int} {xs : List R4} {k : Nat} {x : R4} (hx : xs[k]? = some x) (y : R4) : ((xs.take k).map (redirF f) ++ xs.drop k).set k y = (xs.take k).map (redirF f) ++ y :: xs.drop (k + 1) := by
  have hk := (List.getElem?_eq_some_iff.1 hx).1
  rw [List.set_append_right _ _ (by simp; omega), List.length_map, List.length_take, Nat.min_eq_left (by omega), Nat.sub_self, drop_at hx, List.set_cons_zero]
theorem redir_next {f : Int → Int} {xs : List R4} {k : Nat} {x : R4} (hx : xs[k]? = some x) : (xs.take k).map (redirF f) ++ redirF f x :: xs.drop (k + 1) = (xs.take (k + 1)).map (redirF f) ++ xs.drop (k + 1) := by
  rw [List.take_add_one, hx]; simp

set_option maxRecDepth 100000 in
set_option maxHeartbeats 1000000 in
theorem redirected_any (F : FuncId) (caps : Array Value) (f : Int → Int) (A : Option Addr) (n c : Nat) (xs : List R4) (w : World) (hsrc : Src 4 w (.slice A n c) n (rows R4.vs xs)) (hn : n ≤ 1048576)
    (hE : ∀ (args : Array Value) (W : World), (callFunc F args).run Try.prog W = .ok (.enter F args) W)
    (hF : Hid (∀ (x : R4) (y : Int) (W : World), x ∈ xs → (y = x.c ∨ y = x.d) → Below w.heap.size w W → Calls Try.prog F (#[.int .i64 y] ++ caps) W fun e w' => e = .returned (.int .i64 (f y)) ∧ W = w')) :
    Calls Try.prog 283 #[.slice A n c, .func (.func F) #[] caps] w fun e w' => ∃ v, e = .returned v ∧ w'.ownsRow w.heap.size 185 4 v n (rows R4.vs (xs.map (redirF f))) ∧ Below w.heap.size w w' := by
  have HL : Hid (xs.length = n) := by have := hsrc.1; rw [rows_len R4.vs_len] at this; unfold Hid; omega
  go_enter Try.func283, Try.ntmps283
  go_wp2_with fail
  refine (clone_Instr_any _ n xs _ hsrc hn).mono ?_
  rintro e w1 ⟨v, rfl, hown1, hb1⟩
  obtain ⟨A2, c2, rfl⟩ := own_form hown1
  by_cases hn0 : n = 0
  · subst hn0
    have hx : xs = [] := List.eq_nil_of_length_eq_zero HL.out
    subst hx
    go_wp2
    refine wp_loop_rounds 1 ?_
    rw [rounds_succ]
    go_wp2
    go_ret
    exact ⟨_, rfl, hown1, hb1⟩
  obtain ⟨g2, rfl, hg2, hg2l⟩ := own_addr hown1 (by omega)
  go_wp2
  go_loopw [12] (fun i wr => ∃ k : Nat, k ≤ n ∧ i = .int .i64 k ∧ Below w.heap.size w wr ∧ wr.ownsRow w.heap.size 185 4 (.slice (some ⟨g2, 0, none⟩) n c2) n (rows R4.vs ((xs.take k).map (redirF f) ++ xs.drop k))) (fun i _ => n - (intOf i).toNat)
  case atStart => exact ⟨0, Nat.zero_le _, rfl, hb1, by simpa using hown1⟩
  case round =>
    obtain ⟨k, hk, rfl, hB, hown⟩ := hrel
    by_cases hlt : k < n
    · obtain ⟨x, HX⟩ := hget HL hlt
      have hmem := List.mem_of_getElem? HX.out
      obtain ⟨q0, q1, q2, q3⟩ := (sl_of_own hown).rec4 (redir_at HX.out)
      have hg2r := (hown.lt g2 rfl).2
      have HM := Lib.hid hmem; clear hmem
      simp only [Nat.zero_add] at q0 q1 q2 q3
      have hne : wr.heap.size ≠ g2 := by omega
      go_wp2_with fail
      refine (hF.out x x.c _ HM.out (.inl rfl) (below_step hB (laid_below _ _))).mono ?_
      rintro e w2 ⟨rfl, hw⟩
      obtain ⟨c0, c1, c2', c3, hb2⟩ := alloc4 hw
      clear hw
      have hB2 := below_step hB hb2
      have hown2 := own_below' hown hb2
      have r2 := cell_step q2 hb2
      have z2 := hown2.frozenAt (k * 4 + 2)
      obtain ⟨hown3, hgr3⟩ := hown2.stored (k * 4 + 2) (.int .i64 (f x.c))
      rw [rows_set R4.vs_len (⟨x.a, x.b, f x.c, x.d⟩ : R4) (redir_at HX.out) (by omega) rfl, redir_set HX.out] at hown3
      have hB3 := hB2.grown hgr3 hB2.size (fun j hj => by simp at hj; omega)
      have d0 := cell_set_far (p := ⟨g2, k * 4 + 2, none⟩) (u := .int .i64 (f x.c)) c0 hne
      have d3 := cell_set_far (p := ⟨g2, k * 4 + 2, none⟩) (u := .int .i64 (f x.c)) c3 hne
      clear c0 c1 c2' c3 q0 q1 q2 q3 hown hown2 hgr3 hb2 hB2
      by_cases h1 : x.a = 1
      · have e1 : (x.a == 1) = true := by simpa using h1
        have HR : Hid (redirF f x = ⟨x.a, x.b, f x.c, f x.d⟩) := by unfold Hid; rw [redirF, if_pos h1]
        clear h1
        have hatX : ((xs.take k).map (redirF f) ++ (⟨x.a, x.b, f x.c, x.d⟩ : R4) :: xs.drop (k + 1))[k]? = some ⟨x.a, x.b, f x.c, x.d⟩ := by
          have hk' := (List.getElem?_eq_some_iff.1 HX.out).1
          rw [List.getElem?_append_right (by simp; omega), List.length_map, List.length_take, Nat.min_eq_left (by omega), Nat.sub_self]; rfl
        have HAT := Lib.hid hatX; clear hatX
        obtain ⟨s0, s1, s2, s3⟩ := (sl_of_own hown3).rec4 HAT.out
        simp only [Nat.zero_add] at s3
        have z3 := hown3.frozenAt (k * 4 + 3)
        clear s0 s1 s2
        go_wp2_with fail
        refine (hF.out x x.d _ HM.out (.inr rfl) hB3).mono ?_
        rintro e w3 ⟨rfl, rfl⟩
        obtain ⟨hown4, hgr4⟩ := hown3.stored (k * 4 + 3) (.int .i64 (f x.d))
        have hset : ((xs.take k).map (redirF f) ++ (⟨x.a, x.b, f x.c, x.d⟩ : R4) :: xs.drop (k + 1)).set k ⟨x.a, x.b, f x.c, f x.d⟩ = (xs.take k).map (redirF f) ++ (⟨x.a, x.b, f x.c, f x.d⟩ : R4) :: xs.drop (k + 1) := by
          have hk' := (List.getElem?_eq_some_iff.1 HX.out).1
          rw [List.set_append_right _ _ (by simp; omega), List.length_map, List.length_take, Nat.min_eq_left (by omega), Nat.sub_self, List.set_cons_zero]
        rw [rows_set R4.vs_len (⟨x.a, x.b, f x.c, f x.d⟩ : R4) HAT.out (by omega) rfl, hset, ← HR.out, redir_next HX.out] at hown4
        have hB4 := hB3.grown hgr4 hB3.size (fun j hj => by simp at hj; omega)
        clear hset hown3 hgr4 hB3
        go_wp2
        go_roundw
        case rel => exact ⟨k + 1, by omega, by go_num, hB4, hown4⟩
        case measure => simp [intOf]; omega
      · have e1 : (x.a == 1) = false := by simpa using h1
        have HR : Hid (redirF f x = ⟨x.a, x.b, f x.c, x.d⟩) := by unfold Hid; rw [redirF, if_neg h1]
        clear h1
        rw [← HR.out, redir_next HX.out] at hown3
        go_wp2
        go_roundw
        case rel => exact ⟨k + 1, by omega, by go_num, hB3, hown3⟩
        case measure => simp [intOf]; omega
    · obtain rfl : n = k := by omega
      rw [List.take_of_length_le (by have := HL.out; omega), List.drop_of_length_le (by have := HL.out; omega), List.append_nil] at hown
      go_wp2
      go_ret
      exact ⟨_, rfl, hown, hB⟩

/-- An assembly: the cell of its list in block g, the list's row from block B on. -/
def Asm (W : World) (B g : Nat) (xs : List R4) : Prop :=
  B ≤ g ∧ ∃ v, W.heap[g]? = some (.cells #[v] 283 (0, 0)) ∧ W.ownsRow B 185 4 v xs.length (rows R4.vs xs)
theorem Asm.below {W W' : World} {B g : Nat} {xs : List R4} (h : Asm W B g xs) (hb : Below W.heap.size W W') : Asm W' B g xs := by
  obtain ⟨h1, v, h2, h3⟩ := h
  exact ⟨h1, v, (hb.block g (heap_lt h2)).trans h2, own_below' h3 hb⟩
theorem Asm.lt {W : World} {B g : Nat} {xs : List R4} (h : Asm W B g xs) : g < W.heap.size := by
  obtain ⟨h1, v, h2, h3⟩ := h
  exact heap_lt h2
/-- The cell of the list turns. -/
theorem Asm.put {W : World} {B g n : Nat} {v u : Value} {ys : List R4} (hBg : B ≤ g) (hg : W.heap[g]? = some (.cells #[v] 283 (0, 0))) (hn : ys.length = n) (ho : W.ownsRow B 185 4 u n (rows R4.vs ys)) : Asm (W.setCell ⟨g, 0, none⟩ u) B g ys := by
  subst hn
  refine ⟨hBg, u, (heap_set (i := 0) hg u).trans rfl, own_setCell ho (own_ne_block ho hg (by decide)) u⟩

set_option maxRecDepth 100000 in
set_option maxHeartbeats 400000 in
theorem asmInc_any (B g : Nat) (r t : Int) (xs : List R4) (w : World) (h : Asm w B g xs) (hl : xs.length ≤ 1000000) :
    Calls Try.prog 279 #[.pointer (some ⟨g, 0, none⟩), .int .i64 r, .int .i64 t] w fun e w' => e = .returned (.pointer (some ⟨g, 0, none⟩)) ∧ Asm w' B g (xs ++ [⟨0, r, t, 0⟩]) ∧ Below B w w' := by
  obtain ⟨hBg, v, hg, hown⟩ := h
  have HG := Lib.hid hg
  obtain ⟨g1, g2, -⟩ := var_facts hg
  have hgl := heap_lt hg
  clear hg
  obtain ⟨n, hn⟩ : ∃ n, n = xs.length := ⟨_, rfl⟩
  rw [← hn] at hown hl
  have HN := Lib.hid hn; clear hn
  obtain ⟨A, c, rfl⟩ := own_form hown
  go_enter Try.func279, Try.ntmps279
  go_wp2_with (at_builtin; refine wpList_appg rfl _ _ _ rfl Try.underlying98 infoInstr rfl (by omega) B w hown (by omega) rfl 1 #[.int .i64 0, .int .i64 r, .int .i64 t, .int .i64 0] rfl (laid_below _ _) (heap_alloc_new _ _) rfl (by simp [Value.oneCell']) (by omega) (by unfold maxLen; omega) (by omega) ?_; intro g3 cap w2 hown2 hg2; obtain ⟨k1, k2, k3⟩ := var_keep hg2 hown HG.out (by decide))
  go_ret
  refine ⟨rfl, Asm.put hBg k3 (by rw [List.length_append, ← HN.out]) (by rw [rows_app, rows_one]; exact hown2), ?_⟩
  exact ((Below.refl B w).grown hg2 (by omega) (fun j hj => (hown.lt j hj).1)).setCell (p := ⟨g, 0, none⟩) hBg _

set_option maxRecDepth 100000 in
set_option maxHeartbeats 400000 in
theorem asmDec_any (B g : Nat) (r t o : Int) (xs : List R4) (w : World) (h : Asm w B g xs) (hl : xs.length ≤ 1000000) :
    Calls Try.prog 282 #[.pointer (some ⟨g, 0, none⟩), .int .i64 r, .int .i64 t, .int .i64 o] w fun e w' => e = .returned (.pointer (some ⟨g, 0, none⟩)) ∧ Asm w' B g (xs ++ [⟨1, r, t, o⟩]) ∧ Below B w w' := by
  obtain ⟨hBg, v, hg, hown⟩ := h
  have HG := Lib.hid hg
  obtain ⟨g1, g2, -⟩ := var_facts hg
  have hgl := heap_lt hg
  clear hg
  obtain ⟨n, hn⟩ : ∃ n, n = xs.length := ⟨_, rfl⟩
  rw [← hn] at hown hl
  have HN := Lib.hid hn; clear hn
  obtain ⟨A, c, rfl⟩ := own_form hown
  go_enter Try.func282, Try.ntmps282
  go_wp2_with (at_builtin; refine wpList_appg rfl _ _ _ rfl Try.underlying98 infoInstr rfl (by omega) B w hown (by omega) rfl 1 #[.int .i64 1, .int .i64 r, .int .i64 t, .int .i64 o] rfl (laid_below _ _) (heap_alloc_new _ _) rfl (by simp [Value.oneCell']) (by omega) (by unfold maxLen; omega) (by omega) ?_; intro g3 cap w2 hown2 hg2; obtain ⟨k1, k2, k3⟩ := var_keep hg2 hown HG.out (by decide))
  go_ret
  refine ⟨rfl, Asm.put hBg k3 (by rw [List.length_append, ← HN.out]) (by rw [rows_app, rows_one]; exact hown2), ?_⟩
  exact ((Below.refl B w).grown hg2 (by omega) (fun j hj => (hown.lt j hj).1)).setCell (p := ⟨g, 0, none⟩) hBg _

theorem part1_any (y halt : Int) (at_ : Nat) (A : Option Addr) (n c b1 b2 b3 : Nat) (w : World) (h1 : w.cell? ⟨b1, 0, none⟩ = some (.slice A n c)) (h2 : w.cell? ⟨b2, 0, none⟩ = some (.int .i64 halt)) (h3 : w.cell? ⟨b3, 0, none⟩ = some (.int .i64 at_)) (hy : -1099511627776 ≤ y) (hy1 : y ≤ 1099511627776) (hat : at_ ≤ 1048576) :
    Calls Try.prog 284 #[.int .i64 y, .pointer (some ⟨b1, 0, none⟩), .pointer (some ⟨b2, 0, none⟩), .pointer (some ⟨b3, 0, none⟩)] w fun e w' => e = .returned (.int .i64 (tgt n halt at_ y)) ∧ w = w' := by
  by_cases h : y = (n : Int)
  · have e1 : (y == (n : Int)) = true := by simpa using h
    have HT : Hid (tgt n halt at_ y = halt) := by unfold Hid; rw [tgt, if_pos h]
    clear h
    go_enter Try.func284, Try.ntmps284
    go_wp2_with (go_at_call 253; refine (sizeOf_Instr_any _ _ _ _).mono ?_; rintro e w1 ⟨rfl, rfl⟩)
    go_ret
    exact ⟨ret_int HT.out.symm, rfl⟩
  · have e1 : (y == (n : Int)) = false := by simpa using h
    have HT : Hid (tgt n halt at_ y = y + at_) := by unfold Hid; rw [tgt, if_neg h]
    clear h
    go_enter Try.func284, Try.ntmps284
    go_wp2_with (go_at_call 253; refine (sizeOf_Instr_any _ _ _ _).mono ?_; rintro e w1 ⟨rfl, rfl⟩)
    go_ret
    exact ⟨ret_int HT.out.symm, rfl⟩

/-- Targets that are near 0. -/
def Near (ps : List R4) : Prop := ∀ x ∈ ps, (-1099511627776 ≤ x.c ∧ x.c ≤ 1099511627776) ∧ (-1099511627776 ≤ x.d ∧ x.d ≤ 1099511627776)

set_option maxRecDepth 100000 in
set_option maxHeartbeats 1000000 in
theorem asmPart_full (B g : Nat) (halt : Int) (xs ps : List R4) (A : Option Addr) (n c : Nat) (w : World) (h : Asm w B g xs) (hl : xs.length ≤ 1000000) (hsrc : Src 4 w (.slice A n c) n (rows R4.vs ps)) (hn : n ≤ 1000000) (hnear : Near ps) :
    Calls Try.prog 252 #[.pointer (some ⟨g, 0, none⟩), .slice A n c, .int .i64 halt] w fun e w' => e = .returned (.pointer (some ⟨g, 0, none⟩)) ∧ Asm w' B g (xs ++ ps.map (redirF (tgt n halt xs.length))) ∧ Below B w w' ∧ (∀ (q : Nat) (cs : Array Value) (ty : TypeId) (fr : Nat × Nat), q ≠ g → ty ≠ 185 → w.heap[q]? = some (.cells cs ty fr) → w'.heap[q]? = some (.cells cs ty fr)) := by
  have HNR := Lib.hid hnear; clear hnear
  have HPL : Hid (ps.length = n) := by have := hsrc.1; rw [rows_len R4.vs_len] at this; unfold Hid; omega
  obtain ⟨hBg, v, hg, hown⟩ := h
  have HG := Lib.hid hg
  obtain ⟨g1, g2, -⟩ := var_facts hg
  have hgl := heap_lt hg
  clear hg
  obtain ⟨k, hk⟩ : ∃ k, k = xs.length := ⟨_, rfl⟩
  rw [← hk] at hown hl ⊢
  have HK := Lib.hid hk; clear hk
  obtain ⟨A1, c1, rfl⟩ := own_form hown
  -- the three boxes
  obtain ⟨w3, hw3⟩ : ∃ w3, w3 = ((w.alloc (.cells #[.slice A n c] 98)).alloc (.cells #[.int .i64 halt] 2)).alloc (.cells #[.int .i64 (k : Int)] 2) := ⟨_, rfl⟩
  go_enter Try.func252, Try.ntmps252
  go_wp2_with (go_at_call 253; refine (sizeOf_Instr_any _ _ _ _).mono ?_; rintro e w1 ⟨rfl, rfl⟩)
  rw [← hw3]
  have hB3 : Below w.heap.size w w3 := by rw [hw3]; exact ((((Below.refl _ _).alloc (Nat.le_refl _) _).alloc (by simp) _).alloc (by simp; omega) _)
  have b1 : w3.cell? ⟨w.heap.size, 0, none⟩ = some (.slice A n c) := by rw [hw3]; simp [go_sem]
  have b2 : w3.cell? ⟨w.heap.size + 1, 0, none⟩ = some (.int .i64 halt) := by rw [hw3]; simp [go_sem]
  have b3 : w3.cell? ⟨w.heap.size + 1 + 1, 0, none⟩ = some (.int .i64 (k : Int)) := by rw [hw3]; simp [go_sem]
  clear hw3
  have l1 := cell_step g1 hB3
  have l2 : w3.frozen? ⟨g, 0, none⟩ = false := (hB3.frozen (p := ⟨g, 0, none⟩) hgl).trans g2
  have hown3 := own_below' hown hB3
  have hsrc3 := hsrc.below hB3
  have HG3 := Lib.hid ((hB3.block g hgl).trans HG.out)
  have hgl3 := heap_lt HG3.out
  have hB3s := hB3.size
  have HF3 : Hid (∀ (x : R4) (y : Int) (W : World), x ∈ ps → (y = x.c ∨ y = x.d) → Below w3.heap.size w3 W → Calls Try.prog 284 #[.int .i64 y, .pointer (some ⟨w.heap.size, 0, none⟩), .pointer (some ⟨w.heap.size + 1, 0, none⟩), .pointer (some ⟨w.heap.size + 1 + 1, 0, none⟩)] W fun e w' => e = .returned (.int .i64 (tgt n halt k y)) ∧ W = w') := by
    intro x y W hx hy hW
    have hnr := HNR.out x hx
    exact part1_any y halt k A n c _ _ _ W (cell_step b1 hW) (cell_step b2 hW) (cell_step b3 hW) (by omega) (by omega) (by omega)
  have HE := Lib.hid (enters_of' (P := Try.prog) Try.func284 (by kernel_rfl) rfl)
  have HO := Lib.hid (one_rows_Instr (ps.map (redirF (tgt n halt k))))
  clear g1 g2 hown hsrc hB3s b2 b3
  go_region_law ((first
    | (refine step_appx (by rfl) _ _ _ (by rfl) Try.underlying98 infoInstr rfl (by omega) B hown4 hbase4 (by rfl) hsrc4 (by rfl) HO.out (by unfold maxLen; omega) (by omega) ?_; intro v6 w6 hown6 hg6 hnil6; clear hnil6; obtain ⟨A6, c6, rfl⟩ := own_form hown6; obtain ⟨k1, k2, k3⟩ := var_keep hg6 hown4 HG4.out (by decide))
    | (go_simp; go_at_call 283; refine (redirected_any 284 #[.pointer (some ⟨w.heap.size, 0, none⟩), .pointer (some ⟨w.heap.size + 1, 0, none⟩), .pointer (some ⟨w.heap.size + 1 + 1, 0, none⟩)] (tgt n halt k) A n c ps _ (by exact hsrc3) (by omega) HE.out (fun x y W hx hy hW => HF3.out x y W hx hy (below_drew_at hW))).mono ?_; rintro e w4 ⟨v4, rfl, hown40, hb4⟩; have hb4' := below_drew_at hb4; have m1 := cell_step l1 hb4'; have m2 := (hb4'.frozen (p := ⟨g, 0, none⟩) hgl3).trans l2; have HG4 := Lib.hid ((hb4'.block g hgl3).trans HG3.out); have hown4 := own_below' hown3 hb4'; have hsrc4 := Src.of_own hown40; have hbase4 : B ≤ w4.heap.size := by have := hb4'.size; omega)))
  all_goals
    go_wp2
    go_ret
    have hB6 : Below B w w6 := (((hB3.mono (by omega)).trans (hb4'.mono (by omega)))).grown hg6 hbase4 (fun j hj => (hown4.lt j hj).1)
    refine ⟨rfl, Asm.put hBg k3 (by rw [List.length_append, List.length_map, ← HK.out, HPL.out]) (by rw [rows_app]; exact hown6), hB6.setCell (p := ⟨g, 0, none⟩) hBg _, ?_⟩
    intro q cs ty fr hq hty ho
    have o3 := (hB3.block q (heap_lt ho)).trans ho
    have o4 := (hb4'.block q (heap_lt o3)).trans o3
    have o6 := (hg6.block q (heap_lt o4) (own_ne_block hown4 o4 (fun e => hty e.symm))).trans o4
    exact heap_set_other o6 ⟨g, 0, none⟩ hq _

theorem asmPart_any (B g : Nat) (halt : Int) (xs ps : List R4) (A : Option Addr) (n c : Nat) (w : World) (h : Asm w B g xs) (hl : xs.length ≤ 1000000) (hsrc : Src 4 w (.slice A n c) n (rows R4.vs ps)) (hn : n ≤ 1000000) (hnear : Near ps) :
    Calls Try.prog 252 #[.pointer (some ⟨g, 0, none⟩), .slice A n c, .int .i64 halt] w fun e w' => e = .returned (.pointer (some ⟨g, 0, none⟩)) ∧ Asm w' B g (xs ++ ps.map (redirF (tgt n halt xs.length))) ∧ Below B w w' :=
  (asmPart_full B g halt xs ps A n c w h hl hsrc hn hnear).mono fun _ _ h => ⟨h.1, h.2.1, h.2.2.1⟩

def fits (xs : List R4) : List R4 × Int := (if 400 < xs.length then [] else xs, if 400 < xs.length then 5 else 0)

end Go.Proofs.Yteocnkiagifmfaa
