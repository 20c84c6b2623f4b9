/- The law FnExactRunFuncProgram returns true for every input, and each argument reads afterwards as before: the proof, part 6. No conditions. -/
import Derived.Test.YtjggkgdojhlhpaaGreatRunFuncProgramZe
import Derived.Deep.RegionLaw
import Derived.Sort.Grow
import Derived.Lib.RowBridge
import Derived.Deep.DrawnRows
/- Register programs in the making: redirected, and the methods inc, dec, part, done of an assembly. -/
namespace Go.Proofs.YtjggkgdojhlhpaaGreat
open Go.RowKit
set_option linter.all false
attribute [local go_sem ↓] Go.wp_at_zero Go.wp_at_succ

/-- New targets. -/
def redirF (f : Int → Int) (x : R4) : R4 := ⟨x.a, x.b, f x.c, if x.a = 1 then f x.d else x.d⟩
def tgt (n : Nat) (halt by_ : Int) (y : Int) : Int := if y = n then halt else y + by_
theorem own_addr {w : World} {base : Nat} {e : TypeId} {size n cap : Nat} {A : Option Addr} {xs : List Value} (h : w.ownsRow base e size (.slice A n cap) n xs) (hn : 0 < n) : ∃ g, A = some ⟨g, 0, none⟩ ∧ base ≤ g ∧ g < w.heap.size := by
  rcases h.2 with ⟨_, h0⟩ | ⟨g, cap', cur, hv, hb, hg, _⟩
  · omega
  · injection hv with h1 h2 h3
    exact ⟨g, h1, hb, heap_lt hg⟩
theorem cell_set_far {w : World} {p q : Addr} {u v : Value} (h : w.cell? q = some v) (hne : q.block ≠ p.block) : (w.setCell p u).cell? q = some v := by
  unfold World.cell? at h ⊢
  rw [Below.heap_setCell w p u q.block hne]
  exact h
theorem redir_at {f : Int → Int} {xs : List R4} {k : Nat} {x : R4} (hx : xs[k]? = some x) : ((xs.take k).map (redirF f) ++ xs.drop k)[k]? = some x := by
  have hk := (List.getElem?_eq_some_iff.1 hx).1
  rw [List.getElem?_append_right (by simp; omega), List.length_map, List.length_take, Nat.min_eq_left (by omega), Nat.sub_self, List.getElem?_drop]
  exact hx
theorem redir_set {f : Int → Int} {xs : List R4} {k : Nat} {x : R4} (hx : xs[k]? = some x) (y : R4) : ((xs.take k).map (redirF f) ++ xs.drop k).set k y = (xs.take k).map (redirF f) ++ y :: xs.drop (k + 1) := by
  have hk := (List.getElem?_eq_some_iff.1 hx).1
  rw [List.set_append_right _ _ (by simp; omega), List.length_map, List.length_take, Nat.min_eq_left (by omega), Nat.sub_self, drop_at hx, List.set_cons_zero]
theorem redir_next {f : Int → Int} {xs : List R4} {k : Nat} {x : R4} (hx : xs[k]? = some x) : (xs.take k).map (redirF f) ++ redirF f x :: xs.drop (k + 1) = (xs.take (k + 1)).map (redirF f) ++ xs.drop (k + 1) := by
  rw [List.take_add_one, hx]; simp

set_option maxRecDepth 100000 in
set_option maxHeartbeats 1000000 in
theorem redirected_any (F : FuncId) (caps : Array Value) (f : Int → Int) (A : Option Addr) (n c : Nat) (xs : List R4) (w : World) (hsrc : Src 4 w (.slice A n c) n (rows R4.vs xs)) (hn : n ≤ 1048576)
    (hE : ∀ (args : Array Value) (W : World), (callFunc F args).run Tryz.prog W = .ok (.enter F args) W)
    (hF : Hid (∀ (x : R4) (y : Int) (W : World), x ∈ xs → (y = x.c ∨ y = x.d) → Below w.heap.size w W → Calls Tryz.prog F (#[.int .i64 y] ++ caps) W fun e w' => e = .returned (.int .i64 (f y)) ∧ W = w')) :
    Calls Tryz.prog 91 #[.slice A n c, .func (.func F) #[] caps] w fun e w' => ∃ v, e = .returned v ∧ w'.ownsRow w.heap.size 66 4 v n (rows R4.vs (xs.map (redirF f))) ∧ Below w.heap.size w w' := by
  have HL : Hid (xs.length = n) := by have := hsrc.1; rw [rows_len R4.vs_len] at this; unfold Hid; omega
  go_enter Tryz.func91, Tryz.ntmps91
  go_wp2_with fail
  refine (clone_Instr_any _ n xs _ hsrc hn).mono ?_
  rintro e w1 ⟨v, rfl, hown1, hb1⟩
  obtain ⟨A2, c2, rfl⟩ := own_form hown1
  by_cases hn0 : n = 0
  · subst hn0
    have hx : xs = [] := List.eq_nil_of_length_eq_zero HL.out
    subst hx
    go_wp2
    refine wp_loop_rounds 1 ?_
    rw [rounds_succ]
    go_wp2
    go_ret
    exact ⟨_, rfl, hown1, hb1⟩
  obtain ⟨g2, rfl, hg2, hg2l⟩ := own_addr hown1 (by omega)
  go_wp2
  go_loopw [12] (fun i wr => ∃ k : Nat, k ≤ n ∧ i = .int .i64 k ∧ Below w.heap.size w wr ∧ wr.ownsRow w.heap.size 66 4 (.slice (some ⟨g2, 0, none⟩) n c2) n (rows R4.vs ((xs.take k).map (redirF f) ++ xs.drop k))) (fun i _ => n - (intOf i).toNat)
  case atStart => exact ⟨0, Nat.zero_le _, rfl, hb1, by simpa using hown1⟩
  case round =>
    obtain ⟨k, hk, rfl, hB, hown⟩ := hrel
    by_cases hlt : k < n
    · obtain ⟨x, HX⟩ := hget HL hlt
      have hmem := List.mem_of_getElem? HX.out
      obtain ⟨q0, q1, q2, q3⟩ := (sl_of_own hown).rec4 (redir_at HX.out)
      have hg2r := (hown.lt g2 rfl).2
      have HM := Lib.hid hmem; clear hmem
      simp only [Nat.zero_add] at q0 q1 q2 q3
      have hne : wr.heap.size ≠ g2 := by omega
      go_wp2_with fail
      refine (hF.out x x.c _ HM.out (.inl rfl) (below_step hB (laid_below _ _))).mono ?_
      rintro e w2 ⟨rfl, hw⟩
      obtain ⟨c0, c1, c2', c3, hb2⟩ := alloc4 hw
      clear hw
      have hB2 := below_step hB hb2
      have hown2 := own_below' hown hb2
      have r2 := cell_step q2 hb2
      have z2 := hown2.frozenAt (k * 4 + 2)
      obtain ⟨hown3, hgr3⟩ := hown2.stored (k * 4 + 2) (.int .i64 (f x.c))
      rw [rows_set R4.vs_len (⟨x.a, x.b, f x.c, x.d⟩ : R4) (redir_at HX.out) (by omega) rfl, redir_set HX.out] at hown3
      have hB3 := hB2.grown hgr3 hB2.size (fun j hj => by simp at hj; omega)
      have d0 := cell_set_far (p := ⟨g2, k * 4 + 2, none⟩) (u := .int .i64 (f x.c)) c0 hne
      have d3 := cell_set_far (p := ⟨g2, k * 4 + 2, none⟩) (u := .int .i64 (f x.c)) c3 hne
      clear c0 c1 c2' c3 q0 q1 q2 q3 hown hown2 hgr3 hb2 hB2
      by_cases h1 : x.a = 1
      · have e1 : (x.a == 1) = true := by simpa using h1
        have HR : Hid (redirF f x = ⟨x.a, x.b, f x.c, f x.d⟩) := by unfold Hid; rw [redirF, if_pos h1]
        clear h1
        have hatX : ((xs.take k).map (redirF f) ++ (⟨x.a, x.b, f x.c, x.d⟩ : R4) :: xs.drop (k + 1))[k]? = some ⟨x.a, x.b, f x.c, x.d⟩ := by
          have hk' := (List.getElem?_eq_some_iff.1 HX.out).1
          rw [List.getElem?_append_right (by simp; omega), List.length_map, List.length_take, Nat.min_eq_left (by omega), Nat.sub_self]; rfl
        have HAT := Lib.hid hatX; clear hatX
        obtain ⟨s0, s1, s2, s3⟩ := (sl_of_own hown3).rec4 HAT.out
        simp only [Nat.zero_add] at s3
        have z3 := hown3.frozenAt (k * 4 + 3)
        clear s0 s1 s2
        go_wp2_with fail
        refine (hF.out x x.d _ HM.out (.inr rfl) hB3).mono ?_
        rintro e w3 ⟨rfl, rfl⟩
        obtain ⟨hown4, hgr4⟩ := hown3.stored (k * 4 + 3) (.int .i64 (f x.d))
        have hset : ((xs.take k).map (redirF f) ++ (⟨x.a, x.b, f x.c, x.d⟩ : R4) :: xs.drop (k + 1)).set k ⟨x.a, x.b, f x.c, f x.d⟩ = (xs.take k).map (redirF f) ++ (⟨x.a, x.b, f x.c, f x.d⟩ : R4) :: xs.drop (k + 1) := by
          have hk' := (List.getElem?_eq_some_iff.1 HX.out).1
          rw [List.set_append_right _ _ (by simp; omega), List.length_map, List.length_take, Nat.min_eq_left (by omega), Nat.sub_self, List.set_cons_zero]
        rw [rows_set R4.vs_len (⟨x.a, x.b, f x.c, f x.d⟩ : R4) HAT.out (by omega) rfl, hset, ← HR.out, redir_next HX.out] at hown4
        have hB4 := hB3.grown hgr4 hB3.size (fun j hj => by simp at hj; omega)
        clear hset hown3 hgr4 hB3
        go_wp2
        go_roundw
        case rel => exact ⟨k + 1, by omega, by go_num, hB4, hown4⟩
        case measure => simp [intOf]; omega
      · have e1 : (x.a == 1) = false := by simpa using h1
        have HR : Hid (redirF f x = ⟨x.a, x.b, f x.c, x.d⟩) := by unfold Hid; rw [redirF, if_neg h1]
        clear h1
        rw [← HR.out, redir_next HX.out] at hown3
        go_wp2
        go_roundw
        case rel => exact ⟨k + 1, by omega, by go_num, hB3, hown3⟩
        case measure => simp [intOf]; omega
    · obtain rfl : n = k := by omega
      rw [List.take_of_length_le (by have := HL.out; omega), List.drop_of_length_le (by have := HL.out; omega), List.append_nil] at hown
      go_wp2
      go_ret
      exact ⟨_, rfl, hown, hB⟩

/-- An assembly: the cell of its list in block g, the list's row from block B on. -/
def Asm (W : World) (B g : Nat) (xs : List R4) : Prop :=
  B ≤ g ∧ ∃ v, W.heap[g]? = some (.cells #[v] 97 (0, 0)) ∧ W.ownsRow B 66 4 v xs.length (rows R4.vs xs)
theorem Asm.below {W W' : World} {B g : Nat} {xs : List R4} (h : Asm W B g xs) (hb : Below W.heap.size W W') : Asm W' B g xs := by
  obtain ⟨h1, v, h2, h3⟩ := h
  exact ⟨h1, v, (hb.block g (heap_lt h2)).trans h2, own_below' h3 hb⟩
theorem Asm.lt {W : World} {B g : Nat} {xs : List R4} (h : Asm W B g xs) : g < W.heap.size := by
  obtain ⟨h1, v, h2, h3⟩ := h
  exact heap_lt h2
/-- The cell of the list turns. -/
theorem Asm.put {W : World} {B g n : Nat} {v u : Value} {ys : List R4} (hBg : B ≤ g) (hg : W.heap[g]? = some (.cells #[v] 97 (0, 0))) (hn : ys.length = n) (ho : W.ownsRow B 66 4 u n (rows R4.vs ys)) : Asm (W.setCell ⟨g, 0, none⟩ u) B g ys := by
  subst hn
  refine ⟨hBg, u, (heap_set (i := 0) hg u).trans rfl, own_setCell ho (own_ne_block ho hg (by decide)) u⟩

set_option maxRecDepth 100000 in
set_option maxHeartbeats 400000 in
theorem asmInc_any (B g : Nat) (r t : Int) (xs : List R4) (w : World) (h : Asm w B g xs) (hl : xs.length ≤ 1000000) :
    Calls Tryz.prog 87 #[.pointer (some ⟨g, 0, none⟩), .int .i64 r, .int .i64 t] w fun e w' => e = .returned (.pointer (some ⟨g, 0, none⟩)) ∧ Asm w' B g (xs ++ [⟨0, r, t, 0⟩]) ∧ Below B w w' := by
  obtain ⟨hBg, v, hg, hown⟩ := h
  have HG := Lib.hid hg
  obtain ⟨g1, g2, -⟩ := var_facts hg
  have hgl := heap_lt hg
  clear hg
  obtain ⟨n, hn⟩ : ∃ n, n = xs.length := ⟨_, rfl⟩
  rw [← hn] at hown hl
  have HN := Lib.hid hn; clear hn
  obtain ⟨A, c, rfl⟩ := own_form hown
  go_enter Tryz.func87, Tryz.ntmps87
  go_wp2_with (at_builtin; refine wpList_appg rfl _ _ _ rfl Tryz.underlying39 infoInstr rfl (by omega) B w hown (by omega) rfl 1 #[.int .i64 0, .int .i64 r, .int .i64 t, .int .i64 0] rfl (laid_below _ _) (heap_alloc_new _ _) rfl (by simp [Value.oneCell']) (by omega) (by unfold maxLen; omega) (by omega) ?_; intro g3 cap w2 hown2 hg2; obtain ⟨k1, k2, k3⟩ := var_keep hg2 hown HG.out (by decide))
  go_ret
  refine ⟨rfl, Asm.put hBg k3 (by rw [List.length_append, ← HN.out]) (by rw [rows_app, rows_one]; exact hown2), ?_⟩
  exact ((Below.refl B w).grown hg2 (by omega) (fun j hj => (hown.lt j hj).1)).setCell (p := ⟨g, 0, none⟩) hBg _

set_option maxRecDepth 100000 in
set_option maxHeartbeats 400000 in
theorem asmDec_any (B g : Nat) (r t o : Int) (xs : List R4) (w : World) (h : Asm w B g xs) (hl : xs.length ≤ 1000000) :
    Calls Tryz.prog 90 #[.pointer (some ⟨g, 0, none⟩), .int .i64 r, .int .i64 t, .int .i64 o] w fun e w' => e = .returned (.pointer (some ⟨g, 0, none⟩)) ∧ Asm w' B g (xs ++ [⟨1, r, t, o⟩]) ∧ Below B w w' := by
  obtain ⟨hBg, v, hg, hown⟩ := h
  have HG := Lib.hid hg
  obtain ⟨g1, g2, -⟩ := var_facts hg
  have hgl := heap_lt hg
  clear hg
  obtain ⟨n, hn⟩ : ∃ n, n = xs.length := ⟨_, rfl⟩
  rw [← hn] at hown hl
  have HN := Lib.hid hn; clear hn
  obtain ⟨A, c, rfl⟩ := own_form hown
  go_enter Tryz.func90, Tryz.ntmps90
  go_wp2_with (at_builtin; refine wpList_appg rfl _ _ _ rfl Tryz.underlying39 infoInstr rfl (by omega) B w hown (by omega) rfl 1 #[.int .i64 1, .int .i64 r, .int .i64 t, .int .i64 o] rfl (laid_below _ _) (heap_alloc_new _ _) rfl (by simp [Value.oneCell']) (by omega) (by unfold maxLen; omega) (by omega) ?_; intro g3 cap w2 hown2 hg2; obtain ⟨k1, k2, k3⟩ := var_keep hg2 hown HG.out (by decide))
  go_ret
  refine ⟨rfl, Asm.put hBg k3 (by rw [List.length_append, ← HN.out]) (by rw [rows_app, rows_one]; exact hown2), ?_⟩
  exact ((Below.refl B w).grown hg2 (by omega) (fun j hj => (hown.lt j hj).1)).setCell (p := ⟨g, 0, none⟩) hBg _

theorem part1_any (y halt : Int) (at_ : Nat) (A : Option Addr) (n c b1 b2 b3 : Nat) (w : World) (h1 : w.cell? ⟨b1, 0, none⟩ = some (.slice A n c)) (h2 : w.cell? ⟨b2, 0, none⟩ = some (.int .i64 halt)) (h3 : w.cell? ⟨b3, 0, none⟩ = some (.int .i64 at_)) (hy : -1099511627776 ≤ y) (hy1 : y ≤ 1099511627776) (hat : at_ ≤ 1048576) :
    Calls Tryz.prog 92 #[.int .i64 y, .pointer (some ⟨b1, 0, none⟩), .pointer (some ⟨b2, 0, none⟩), .pointer (some ⟨b3, 0, none⟩)] w fun e w' => e = .returned (.int .i64 (tgt n halt at_ y)) ∧ w = w' := by
  by_cases h : y = (n : Int)
  · have e1 : (y == (n : Int)) = true := by simpa using h
    have HT : Hid (tgt n halt at_ y = halt) := by unfold Hid; rw [tgt, if_pos h]
    clear h
    go_enter Tryz.func92, Tryz.ntmps92
    go_wp2_with (go_at_call 33; refine (sizeOf_Instr_any _ _ _ _).mono ?_; rintro e w1 ⟨rfl, rfl⟩)
    go_ret
    exact ⟨ret_int HT.out.symm, rfl⟩
  · have e1 : (y == (n : Int)) = false := by simpa using h
    have HT : Hid (tgt n halt at_ y = y + at_) := by unfold Hid; rw [tgt, if_neg h]
    clear h
    go_enter Tryz.func92, Tryz.ntmps92
    go_wp2_with (go_at_call 33; refine (sizeOf_Instr_any _ _ _ _).mono ?_; rintro e w1 ⟨rfl, rfl⟩)
    go_ret
    exact ⟨ret_int HT.out.symm, rfl⟩

/-- Targets that are near 0. -/
def Near (ps : List R4) : Prop := ∀ x ∈ ps, (-1099511627776 ≤ x.c ∧ x.c ≤ 1099511627776) ∧ (-1099511627776 ≤ x.d ∧ x.d ≤ 1099511627776)

set_option maxRecDepth 100000 in
set_option maxHeartbeats 1000000 in
theorem asmPart_full (B g : Nat) (halt : Int) (xs ps : List R4) (A : Option Addr) (n c : Nat) (w : World) (h : Asm w B g xs) (hl : xs.length ≤ 1000000) (hsrc : Src 4 w (.slice A n c) n (rows R4.vs ps)) (hn : n ≤ 1000000) (hnear : Near ps) :
    Calls Tryz.prog 66 #[.pointer (some ⟨g, 0, none⟩), .slice A n c, .int .i64 halt] w fun e w' => e = .returned (.pointer (some ⟨g, 0, none⟩)) ∧ Asm w' B g (xs ++ ps.map (redirF (tgt n halt xs.length))) ∧ Below B w w' ∧ (∀ (q : Nat) (cs : Array Value) (ty : TypeId) (fr : Nat × Nat), q ≠ g → ty ≠ 66 → w.heap[q]? = some (.cells cs ty fr) → w'.heap[q]? = some (.cells cs ty fr)) := by
  have HNR := Lib.hid hnear; clear hnear
  have HPL : Hid (ps.length = n) := by have := hsrc.1; rw [rows_len R4.vs_len] at this; unfold Hid; omega
  obtain ⟨hBg, v, hg, hown⟩ := h
  have HG := Lib.hid hg
  obtain ⟨g1, g2, -⟩ := var_facts hg
  have hgl := heap_lt hg
  clear hg
  obtain ⟨k, hk⟩ : ∃ k, k = xs.length := ⟨_, rfl⟩
  rw [← hk] at hown hl ⊢
  have HK := Lib.hid hk; clear hk
  obtain ⟨A1, c1, rfl⟩ := own_form hown
  -- the three boxes
  obtain ⟨w3, hw3⟩ : ∃ w3, w3 = ((w.alloc (.cells #[.slice A n c] 39)).alloc (.cells #[.int .i64 halt] 2)).alloc (.cells #[.int .i64 (k : Int)] 2) := ⟨_, rfl⟩
  go_enter Tryz.func66, Tryz.ntmps66
  go_wp2_with (go_at_call 33; refine (sizeOf_Instr_any _ _ _ _).mono ?_; rintro e w1 ⟨rfl, rfl⟩)
  rw [← hw3]
  have hB3 : Below w.heap.size w w3 := by rw [hw3]; exact ((((Below.refl _ _).alloc (Nat.le_refl _) _).alloc (by simp) _).alloc (by simp; omega) _)
  have b1 : w3.cell? ⟨w.heap.size, 0, none⟩ = some (.slice A n c) := by rw [hw3]; simp [go_sem]
  have b2 : w3.cell? ⟨w.heap.size + 1, 0, none⟩ = some (.int .i64 halt) := by rw [hw3]; simp [go_sem]
  have b3 : w3.cell? ⟨w.heap.size + 1 + 1, 0, none⟩ = some (.int .i64 (k : Int)) := by rw [hw3]; simp [go_sem]
  clear hw3
  have l1 := cell_step g1 hB3
  have l2 : w3.frozen? ⟨g, 0, none⟩ = false := (hB3.frozen (p := ⟨g, 0, none⟩) hgl).trans g2
  have hown3 := own_below' hown hB3
  have hsrc3 := hsrc.below hB3
  have HG3 := Lib.hid ((hB3.block g hgl).trans HG.out)
  have hgl3 := heap_lt HG3.out
  have hB3s := hB3.size
  have HF3 : Hid (∀ (x : R4) (y : Int) (W : World), x ∈ ps → (y = x.c ∨ y = x.d) → Below w3.heap.size w3 W → Calls Tryz.prog 92 #[.int .i64 y, .pointer (some ⟨w.heap.size, 0, none⟩), .pointer (some ⟨w.heap.size + 1, 0, none⟩), .pointer (some ⟨w.heap.size + 1 + 1, 0, none⟩)] W fun e w' => e = .returned (.int .i64 (tgt n halt k y)) ∧ W = w') := by
    intro x y W hx hy hW
    have hnr := HNR.out x hx
    exact part1_any y halt k A n c _ _ _ W (cell_step b1 hW) (cell_step b2 hW) (cell_step b3 hW) (by omega) (by omega) (by omega)
  have HE := Lib.hid (enters_of' (P := Tryz.prog) Tryz.func92 (by kernel_rfl) rfl)
  have HO := Lib.hid (one_rows_Instr (ps.map (redirF (tgt n halt k))))
  clear g1 g2 hown hsrc hB3s b2 b3
  go_region_law ((first
    | (refine step_appx (by rfl) _ _ _ (by rfl) Tryz.underlying39 infoInstr rfl (by omega) B hown4 hbase4 (by rfl) hsrc4 (by rfl) HO.out (by unfold maxLen; omega) (by omega) ?_; intro v6 w6 hown6 hg6 hnil6; clear hnil6; obtain ⟨A6, c6, rfl⟩ := own_form hown6; obtain ⟨k1, k2, k3⟩ := var_keep hg6 hown4 HG4.out (by decide))
    | (go_simp; go_at_call 91; refine (redirected_any 92 #[.pointer (some ⟨w.heap.size, 0, none⟩), .pointer (some ⟨w.heap.size + 1, 0, none⟩), .pointer (some ⟨w.heap.size + 1 + 1, 0, none⟩)] (tgt n halt k) A n c ps _ (by exact hsrc3) (by omega) HE.out (fun x y W hx hy hW => HF3.out x y W hx hy (below_drew_at hW))).mono ?_; rintro e w4 ⟨v4, rfl, hown40, hb4⟩; have hb4' := below_drew_at hb4; have m1 := cell_step l1 hb4'; have m2 := (hb4'.frozen (p := ⟨g, 0, none⟩) hgl3).trans l2; have HG4 := Lib.hid ((hb4'.block g hgl3).trans HG3.out); have hown4 := own_below' hown3 hb4'; have hsrc4 := Src.of_own hown40; have hbase4 : B ≤ w4.heap.size := by have := hb4'.size; omega)))
  all_goals
    go_wp2
    go_ret
    have hB6 : Below B w w6 := (((hB3.mono (by omega)).trans (hb4'.mono (by omega)))).grown hg6 hbase4 (fun j hj => (hown4.lt j hj).1)
    refine ⟨rfl, Asm.put hBg k3 (by rw [List.length_append, List.length_map, ← HK.out, HPL.out]) (by rw [rows_app]; exact hown6), hB6.setCell (p := ⟨g, 0, none⟩) hBg _, ?_⟩
    intro q cs ty fr hq hty ho
    have o3 := (hB3.block q (heap_lt ho)).trans ho
    have o4 := (hb4'.block q (heap_lt o3)).trans o3
    have o6 := (hg6.block q (heap_lt o4) (own_ne_block hown4 o4 (fun e => hty e.symm))).trans o4
    exact heap_set_other o6 ⟨g, 0, none⟩ hq _

theorem asmPart_any (B g : Nat) (halt : Int) (xs ps : List R4) (A : Option Addr) (n c : Nat) (w : World) (h : Asm w B g xs) (hl : xs.length ≤ 1000000) (hsrc : Src 4 w (.slice A n c) n (rows R4.vs ps)) (hn : n ≤ 1000000) (hnear : Near ps) :
    Calls Tryz.prog 66 #[.pointer (some ⟨g, 0, none⟩), .slice A n c, .int .i64 halt] w fun e w' => e = .returned (.pointer (some ⟨g, 0, none⟩)) ∧ Asm w' B g (xs ++ ps.map (redirF (tgt n halt xs.length))) ∧ Below B w w' :=
  (asmPart_full B g halt xs ps A n c w h hl hsrc hn hnear).mono fun _ _ h => ⟨h.1, h.2.1, h.2.2.1⟩

def fits (xs : List R4) : List R4 × Int := (if 400 < xs.length then [] else xs, if 400 < xs.length then 5 else 0)

end Go.Proofs.YtjggkgdojhlhpaaGreat

/- The reference on register programs: l07Shift, l07Fits. -/
namespace Go.Proofs.YtjggkgdojhlhpaaGreat
open Go.RowKit
set_option linter.all false

/-- Each instruction is an increment or a decrement. -/
def Kinds (ps : List R4) : Prop := ∀ x ∈ ps, x.a = 0 ∨ x.a = 1
theorem mid_at {α : Type} {xs ys : List α} {k : Nat} {y : α} {l : List α} (h : xs.length = k) : (xs ++ y :: l)[k]? = some y := by
  subst h; simp
theorem mid_set {α : Type} {xs : List α} {k : Nat} {y z : α} {l : List α} (h : xs.length = k) : (xs ++ y :: l).set k z = xs ++ z :: l := by
  subst h; simp

set_option maxRecDepth 100000 in
set_option maxHeartbeats 2000000 in
theorem l07Shift_any (by_ end_ : Int) (A : Option Addr) (n c : Nat) (xs : List R4) (w : World) (hsrc : Src 4 w (.slice A n c) n (rows R4.vs xs)) (hn : n ≤ 1000000) (hnear : Near xs) (hkind : Kinds xs) (hby : 0 ≤ by_) (hby1 : by_ ≤ 1048576) :
    Calls Tryz.prog 58 #[.slice A n c, .int .i64 by_, .int .i64 end_] w fun e w' => ∃ v, e = .returned v ∧ w'.ownsRow w.heap.size 66 4 v n (rows R4.vs (xs.map (redirF (tgt n end_ by_)))) ∧ Below w.heap.size w w' := by
  have HL : Hid (xs.length = n) := by have := hsrc.1; rw [rows_len R4.vs_len] at this; unfold Hid; omega
  have HNR := Lib.hid hnear; clear hnear
  have HKD := Lib.hid hkind; clear hkind
  have ha := hsrc.args
  have hown0 : (w.alloc (.cells #[] 66)).ownsRow w.heap.size 66 4 (.slice (some ⟨w.heap.size, 0, none⟩) 0 0) 0 [] := own_empty w 66 4
  have hB0 := laid_below w (.cells #[] 66)
  have hsrc1 := hsrc.below hB0
  have HO := Lib.hid (one_rows_Instr xs)
  clear hsrc
  go_enter Tryz.func58, Tryz.ntmps58
  go_wp2_with (at_builtin; refine wpList_appx rfl _ _ _ rfl Tryz.underlying39 infoInstr rfl (by omega) w.heap.size hown0 hB0.size rfl hsrc1 rfl HO.out (by unfold maxLen; omega) (by omega) ?_; intro v2 w2 hown2 hg2 hnil2; have hb1 := grown_below hB0 hown0 (Nat.le_refl _) hg2; clear hnil2 hown0 hB0 hsrc1 hg2; obtain ⟨A2, c2, rfl⟩ := own_form hown2; simp only [Nat.zero_add, List.nil_append] at hown2 ⊢)
  by_cases hn0 : n = 0
  · subst hn0
    have hx : xs = [] := List.eq_nil_of_length_eq_zero HL.out
    subst hx
    go_wp2
    refine wp_loop_rounds 1 ?_
    rw [rounds_succ]
    go_wp2
    go_ret
    exact ⟨_, rfl, hown2, hb1⟩
  obtain ⟨g2, rfl, hg2, hg2l⟩ := own_addr hown2 (by omega)
  go_wp2
  go_loopw [9] (fun i wr => ∃ k : Nat, k ≤ n ∧ i = .int .i64 k ∧ Below w.heap.size w wr ∧ wr.ownsRow w.heap.size 66 4 (.slice (some ⟨g2, 0, none⟩) n c2) n (rows R4.vs ((xs.take k).map (redirF (tgt n end_ by_)) ++ xs.drop k))) (fun i _ => n - (intOf i).toNat)
  case atStart => exact ⟨0, Nat.zero_le _, rfl, hb1, by simpa using hown2⟩
  case round =>
    obtain ⟨k, hk, rfl, hB, hown⟩ := hrel
    by_cases hlt : k < n
    · obtain ⟨x, HX⟩ := hget HL hlt
      obtain ⟨b, off, rfl, hs⟩ := ha.sl hlt
      have hbl := hs.1
      obtain ⟨p0, p1, p2, p3⟩ := (hs.below' hB).rec4 HX.out
      obtain ⟨q0, q1, q2, q3⟩ := (sl_of_own hown).rec4 (redir_at HX.out)
      simp only [Nat.zero_add] at q0 q1 q2 q3
      have z2 := hown.frozenAt (k * 4 + 2)
      obtain ⟨⟨n1, n2⟩, n3, n4⟩ := HNR.out x (List.mem_of_getElem? HX.out)
      have hkd := HKD.out x (List.mem_of_getElem? HX.out)
      have hne : b ≠ g2 := by omega
      have HTK : Hid (((xs.take k).map (redirF (tgt n end_ by_))).length = k) := by have := HL.out; unfold Hid; rw [List.length_map, List.length_take]; omega
      by_cases h1 : x.c = (n : Int)
      · have e1 : (x.c == (n : Int)) = true := by simpa using h1
        have HT1 : Hid (tgt n end_ by_ x.c = end_) := by unfold Hid; rw [tgt, if_pos h1]
        clear h1
        obtain ⟨hown3, hgr3⟩ := hown.stored (k * 4 + 2) (.int .i64 end_)
        rw [rows_set R4.vs_len (⟨x.a, x.b, end_, x.d⟩ : R4) (redir_at HX.out) (by omega) rfl, redir_set HX.out] at hown3
        have hB3 := hB.grown hgr3 hB.size (fun j hj => by simp at hj; omega)
        have d0 := cell_set_far (p := ⟨g2, k * 4 + 2, none⟩) (u := .int .i64 end_) p0 hne
        have d3 := cell_set_far (p := ⟨g2, k * 4 + 2, none⟩) (u := .int .i64 end_) p3 hne
        have r3 := (sl_of_own hown3).rec4 (mid_at (ys := xs) HTK.out) |>.2.2.2
        simp only [Nat.zero_add] at r3
        have z3 := hown3.frozenAt (k * 4 + 3)
        clear hown hgr3
        rcases hkd with h0 | h0
        · have e0 : (x.a == 0) = true := by simpa using h0
          have HR : Hid ((⟨x.a, x.b, end_, x.d⟩ : R4) = redirF (tgt n end_ by_) x) := by unfold Hid; rw [redirF, if_neg (by omega), HT1.out]
          clear h0
          rw [HR.out, redir_next HX.out] at hown3
          clear p1 p3 q0 q1 q3 d3 r3 z3
          go_wp2
          go_roundw
          case rel => exact ⟨k + 1, by omega, by go_num, hB3, hown3⟩
          case measure => simp [intOf]; omega
        · have e0 : (x.a == 0) = false := by rw [h0]; rfl
          have H0 := Lib.hid h0; clear h0
          by_cases h2 : x.d = (n : Int)
          · have e2 : (x.d == (n : Int)) = true := by simpa using h2
            have HR : Hid ((⟨x.a, x.b, end_, end_⟩ : R4) = redirF (tgt n end_ by_) x) := by unfold Hid; rw [redirF, if_pos H0.out, HT1.out, tgt, if_pos h2]
            clear h2
            obtain ⟨hown4, hgr4⟩ := hown3.stored (k * 4 + 3) (.int .i64 end_)
            rw [rows_set R4.vs_len (⟨x.a, x.b, end_, end_⟩ : R4) (mid_at (ys := xs) HTK.out) (by omega) rfl, mid_set HTK.out, HR.out, redir_next HX.out] at hown4
            have hB4 := hB3.grown hgr4 hB3.size (fun j hj => by simp at hj; omega)
            clear hown3 hgr4 hB3 p1 p3 q0 q1 q3
            go_wp2
            go_roundw
            case rel => exact ⟨k + 1, by omega, by go_num, hB4, hown4⟩
            case measure => simp [intOf]; omega
          · have e2 : (x.d == (n : Int)) = false := by simpa using h2
            have HR : Hid ((⟨x.a, x.b, end_, (x.d + by_)⟩ : R4) = redirF (tgt n end_ by_) x) := by unfold Hid; rw [redirF, if_pos H0.out, HT1.out, tgt, if_neg h2]
            clear h2
            obtain ⟨hown4, hgr4⟩ := hown3.stored (k * 4 + 3) (.int .i64 (x.d + by_))
            rw [rows_set R4.vs_len (⟨x.a, x.b, end_, (x.d + by_)⟩ : R4) (mid_at (ys := xs) HTK.out) (by omega) rfl, mid_set HTK.out, HR.out, redir_next HX.out] at hown4
            have hB4 := hB3.grown hgr4 hB3.size (fun j hj => by simp at hj; omega)
            clear hown3 hgr4 hB3 p1 p3 q0 q1 q3
            go_wp2
            go_roundw
            case rel => exact ⟨k + 1, by omega, by go_num, hB4, hown4⟩
            case measure => simp [intOf]; omega
      · have e1 : (x.c == (n : Int)) = false := by simpa using h1
        have HT1 : Hid (tgt n end_ by_ x.c = (x.c + by_)) := by unfold Hid; rw [tgt, if_neg h1]
        clear h1
        obtain ⟨hown3, hgr3⟩ := hown.stored (k * 4 + 2) (.int .i64 (x.c + by_))
        rw [rows_set R4.vs_len (⟨x.a, x.b, (x.c + by_), x.d⟩ : R4) (redir_at HX.out) (by omega) rfl, redir_set HX.out] at hown3
        have hB3 := hB.grown hgr3 hB.size (fun j hj => by simp at hj; omega)
        have d0 := cell_set_far (p := ⟨g2, k * 4 + 2, none⟩) (u := .int .i64 (x.c + by_)) p0 hne
        have d3 := cell_set_far (p := ⟨g2, k * 4 + 2, none⟩) (u := .int .i64 (x.c + by_)) p3 hne
        have r3 := (sl_of_own hown3).rec4 (mid_at (ys := xs) HTK.out) |>.2.2.2
        simp only [Nat.zero_add] at r3
        have z3 := hown3.frozenAt (k * 4 + 3)
        clear hown hgr3
        rcases hkd with h0 | h0
        · have e0 : (x.a == 0) = true := by simpa using h0
          have HR : Hid ((⟨x.a, x.b, (x.c + by_), x.d⟩ : R4) = redirF (tgt n end_ by_) x) := by unfold Hid; rw [redirF, if_neg (by omega), HT1.out]
          clear h0
          rw [HR.out, redir_next HX.out] at hown3
          clear p1 p3 q0 q1 q3 d3 r3 z3
          go_wp2
          go_roundw
          case rel => exact ⟨k + 1, by omega, by go_num, hB3, hown3⟩
          case measure => simp [intOf]; omega
        · have e0 : (x.a == 0) = false := by rw [h0]; rfl
          have H0 := Lib.hid h0; clear h0
          by_cases h2 : x.d = (n : Int)
          · have e2 : (x.d == (n : Int)) = true := by simpa using h2
            have HR : Hid ((⟨x.a, x.b, (x.c + by_), end_⟩ : R4) = redirF (tgt n end_ by_) x) := by unfold Hid; rw [redirF, if_pos H0.out, HT1.out, tgt, if_pos h2]
            clear h2
            obtain ⟨hown4, hgr4⟩ := hown3.stored (k * 4 + 3) (.int .i64 end_)
            rw [rows_set R4.vs_len (⟨x.a, x.b, (x.c + by_), end_⟩ : R4) (mid_at (ys := xs) HTK.out) (by omega) rfl, mid_set HTK.out, HR.out, redir_next HX.out] at hown4
            have hB4 := hB3.grown hgr4 hB3.size (fun j hj => by simp at hj; omega)
            clear hown3 hgr4 hB3 p1 p3 q0 q1 q3
            go_wp2
            go_roundw
            case rel => exact ⟨k + 1, by omega, by go_num, hB4, hown4⟩
            case measure => simp [intOf]; omega
          · have e2 : (x.d == (n : Int)) = false := by simpa using h2
            have HR : Hid ((⟨x.a, x.b, (x.c + by_), (x.d + by_)⟩ : R4) = redirF (tgt n end_ by_) x) := by unfold Hid; rw [redirF, if_pos H0.out, HT1.out, tgt, if_neg h2]
            clear h2
            obtain ⟨hown4, hgr4⟩ := hown3.stored (k * 4 + 3) (.int .i64 (x.d + by_))
            rw [rows_set R4.vs_len (⟨x.a, x.b, (x.c + by_), (x.d + by_)⟩ : R4) (mid_at (ys := xs) HTK.out) (by omega) rfl, mid_set HTK.out, HR.out, redir_next HX.out] at hown4
            have hB4 := hB3.grown hgr4 hB3.size (fun j hj => by simp at hj; omega)
            clear hown3 hgr4 hB3 p1 p3 q0 q1 q3
            go_wp2
            go_roundw
            case rel => exact ⟨k + 1, by omega, by go_num, hB4, hown4⟩
            case measure => simp [intOf]; omega
    · obtain rfl : n = k := by omega
      rw [List.take_of_length_le (by have := HL.out; omega), List.drop_of_length_le (by have := HL.out; omega), List.append_nil] at hown
      go_wp2
      go_ret
      exact ⟨_, rfl, hown, hB⟩

theorem l07Fits_any (B n c : Nat) (A : Option Addr) (xs : List R4) (w : World) (hown : w.ownsRow B 66 4 (.slice A n c) n (rows R4.vs xs)) (hl : xs.length = n) (hn : n ≤ 4194304) :
    Calls Tryz.prog 38 #[.slice A n c] w fun e w' => (∃ v, e = .returned (.tuple #[v, .int .i64 (fits xs).2]) ∧ w.ownsRow B 66 4 v (fits xs).1.length (rows R4.vs (fits xs).1)) ∧ w = w' := by
  have HN := Lib.hid hl; clear hl
  by_cases h4 : 400 < n
  · have hi : (400 : Int) < (n : Int) := by omega
    have HT : Hid (fits xs = ([], 5)) := by unfold Hid fits; rw [HN.out, if_pos h4, if_pos h4]
    rw [HT.out]
    go_enter Tryz.func38, Tryz.ntmps38
    go_wp2
    go_ret2
    exact ⟨⟨_, rfl, World.ownsRow_nil _ _ _ _⟩, rfl⟩
  · have hi : ¬ (400 : Int) < (n : Int) := by omega
    have HT : Hid (fits xs = (xs, 0)) := by unfold Hid fits; rw [HN.out, if_neg h4, if_neg h4]
    rw [HT.out]
    go_enter Tryz.func38, Tryz.ntmps38
    go_wp2
    go_ret2
    exact ⟨⟨_, rfl, by show World.ownsRow _ _ _ _ _ xs.length _; rw [HN.out]; exact hown⟩, rfl⟩

end Go.Proofs.YtjggkgdojhlhpaaGreat

/- LoopProgram on both sides. -/
namespace Go.Proofs.YtjggkgdojhlhpaaGreat
open Go.RowKit
set_option linter.all false

def loopP (r : Int) (ps : List R4) : List R4 := [⟨1, r, 1, (ps.length : Int) + 2⟩, ⟨0, r, if ps.length = 0 then 0 else 2, 0⟩] ++ ps.map (redirF (tgt ps.length 0 2))
def loopProgram (r : Int) (ps : List R4) : List R4 × Int := if validP ps then (if inB r 0 23 then fits (loopP r ps) else ([], 2)) else ([], 1)
theorem fits_len (xs : List R4) : (fits xs).1.length ≤ 400 := by 
  unfold fits
  by_cases h : 400 < xs.length
  · simp [h]
  · simp [h]; omega
theorem bndLoopProgram0 (r : Int) (ps : List R4) (h : ps.length ≤ 1048576) : (loopProgram r ps).1.length ≤ 1048576 := by
  unfold loopProgram
  split
  · split
    · have := fits_len (loopP r ps); omega
    · simp
  · simp
theorem valid_near {ps : List R4} (h : validP ps = true) : ps.length ≤ 400 ∧ Near ps ∧ Kinds ps := by
  unfold validP at h
  simp only [Bool.and_eq_true, decide_eq_true_eq, List.all_eq_true] at h
  obtain ⟨h1, h2⟩ := h
  have key : ∀ x ∈ ps, (0 ≤ x.c ∧ x.c ≤ ps.length) ∧ (0 ≤ x.d ∧ x.d ≤ ps.length) ∧ (x.a = 0 ∨ x.a = 1) := by
    intro x hx
    have := h2 x hx
    unfold iOk at this
    simp only [Bool.and_eq_true] at this
    obtain ⟨_, h3, h4⟩ := this
    rw [inB_iff] at h3
    split at h4
    · simp at h4
      exact ⟨h3, by omega, by omega⟩
    · simp only [Bool.and_eq_true, decide_eq_true_eq] at h4
      rw [inB_iff] at h4
      exact ⟨h3, h4.2, .inr h4.1⟩
  refine ⟨h1, fun x hx => ?_, fun x hx => (key x hx).2.2⟩
  have := key x hx
  omega

set_option maxRecDepth 100000 in
set_option maxHeartbeats 400000 in
theorem l07Loop_any (r : Int) (A : Option Addr) (n c : Nat) (xs : List R4) (w : World) (hsrc : Src 4 w (.slice A n c) n (rows R4.vs xs)) (hn : n ≤ 1000) (hnear : Near xs) (hkind : Kinds xs) :
    Calls Tryz.prog 59 #[.int .i64 r, .slice A n c] w fun e w' => ∃ v, e = .returned v ∧ w'.ownsRow w.heap.size 66 4 v (n + 2) (rows R4.vs (loopP r xs)) ∧ Below w.heap.size w w' := by
  have HL : Hid (xs.length = n) := by have := hsrc.1; rw [rows_len R4.vs_len] at this; unfold Hid; omega
  have HO := Lib.hid (one_rows_Instr (xs.map (redirF (tgt n 0 2))))
  have hm2 : (2 : Nat) ≤ maxLen := by unfold maxLen; omega
  have close : ∀ t : Int, Hid (loopP r xs = [⟨1, r, 1, (n : Int) + 2⟩, ⟨0, r, t, 0⟩] ++ xs.map (redirF (tgt n 0 2))) → ((n = 0 ∧ t = 0) ∨ (n ≠ 0 ∧ t = 2)) → Calls Tryz.prog 59 #[.int .i64 r, .slice A n c] w fun e w' => ∃ v, e = .returned v ∧ w'.ownsRow w.heap.size 66 4 v (n + 2) (rows R4.vs (loopP r xs)) ∧ Below w.heap.size w w' := by
    intro t HP ht
    have hown1 : (w.alloc (.cells #[.int .i64 1, .int .i64 r, .int .i64 1, .int .i64 ((n : Int) + 2), .int .i64 0, .int .i64 r, .int .i64 t, .int .i64 0] 66)).ownsRow w.heap.size 66 4 (.slice (some ⟨w.heap.size, 0, none⟩) 2 2) 2 (rows R4.vs [⟨1, r, 1, (n : Int) + 2⟩, ⟨0, r, t, 0⟩]) := own_laid w _ 4 2 _ rfl hm2
    have hb1 := laid_below w (.cells #[.int .i64 1, .int .i64 r, .int .i64 1, .int .i64 ((n : Int) + 2), .int .i64 0, .int .i64 r, .int .i64 t, .int .i64 0] 66)
    have hsrc1 := hsrc.below hb1
    rcases ht with ⟨h0, rfl⟩ | ⟨h0, rfl⟩
    all_goals
      first
        | (have e0 : ((n : Int) == 0) = true := by simp [h0])
        | (have e0 : ((n : Int) == 0) = false := by simp [h0])
      clear h0
      go_enter Tryz.func59, Tryz.ntmps59
      go_wp2_with fail
      refine (l07Shift_any 2 0 A n c xs _ hsrc1 (by omega) hnear hkind (by omega) (by omega)).mono ?_
      rintro e w2 ⟨v2, rfl, hown2, hb2⟩
      have hown3 := own_below' hown1 hb2
      have hB2 := below_step hb1 hb2
      have hsrc2 := Src.of_own hown2
      clear hown1 hown2 hb2
      go_wp2_with (at_builtin; refine wpList_appx rfl _ _ _ rfl Tryz.underlying39 infoInstr rfl (by omega) w.heap.size hown3 hB2.size rfl hsrc2 rfl HO.out (by unfold maxLen; omega) (by omega) ?_; intro v4 w4 hown4 hg4 hnil4; have hB4 := grown_below hB2 hown3 (Nat.le_refl _) hg4; clear hnil4 hown3 hsrc2 hg4)
      go_ret
      exact ⟨_, rfl, by rw [HP.out, rows_app, Nat.add_comm n 2]; exact hown4, hB4⟩
  by_cases h0 : n = 0
  · exact close 0 (by unfold Hid loopP; rw [HL.out, if_pos h0]) (.inl ⟨h0, rfl⟩)
  · exact close 2 (by unfold Hid loopP; rw [HL.out, if_neg h0]) (.inr ⟨h0, rfl⟩)

theorem loopP_len (r : Int) (xs : List R4) : (loopP r xs).length = xs.length + 2 := by simp [loopP]

end Go.Proofs.YtjggkgdojhlhpaaGreat

/- What a sort leaves of a row of the call's own. Plain lemmas on worlds. -/
namespace Go.Proofs.YtjggkgdojhlhpaaGreat
open Go.RowKit Go.Sort
set_option linter.all false

theorem holds_of_own {w : World} {base : Nat} {e : TypeId} {g n cap : Nat} {zs : List Int} (h : w.ownsRow base e 1 (.slice (some ⟨g, 0, none⟩) n cap) n (zs.map (Value.int .i64))) : Holds (Value.int .i64) w g 0 zs.toArray := by
  intro j hj
  have hj' : j < zs.length := by simpa using hj
  have hn : zs.length = n := by have := h.1; simpa using this
  refine ⟨?_, by have := h.frozenAt (0 + j); simpa using this⟩
  have := h.cellAt j (by omega)
  rw [Nat.zero_add, this]
  simp [hj']
theorem own_putRow {w : World} {base : Nat} {e : TypeId} {g n cap : Nat} {xs : List Value} (h : w.ownsRow base e 1 (.slice (some ⟨g, 0, none⟩) n cap) n xs) (d : List Int) (hd : d.length = n) (q : Nat) :
    (putRow (Value.int .i64) (Sort.ahead w q) g 0 d.toArray).ownsRow base e 1 (.slice (some ⟨g, 0, none⟩) n cap) n (d.map (Value.int .i64)) ∧ w.grownBy (putRow (Value.int .i64) (Sort.ahead w q) g 0 d.toArray) (some g) := by
  rcases h.2 with ⟨h0, _⟩ | ⟨g', cap', cur, hv, hb, hg, hn, hm, hs, hx⟩
  · cases h0
  · injection hv with e1 e2 e3
    injection e1 with e1
    injection e1 with e1
    subst e1 e3
    refine ⟨⟨by simp [hd], .inr ⟨g, cap, putCells (Value.int .i64) 0 d.toArray cur, rfl, hb, ?_, hn, hm, by simp [putCells, hs], ?_⟩⟩, ?_⟩
    · show (w.heap.modify g (onCells (putCells (Value.int .i64) 0 d.toArray)))[g]? = _
      rw [Array.getElem?_modify, if_pos rfl, hg]
      rfl
    · apply List.ext_getElem?
      intro j
      by_cases hj : j < n
      · rw [List.getElem?_take, if_pos (by omega)]
        have hc : j < cur.size := by omega
        simp only [putCells, Array.getElem?_toList, Array.getElem?_mapIdx]
        rw [Array.getElem?_eq_getElem hc, Option.map_some, if_pos (by simp; omega)]
        simp [show j < d.length by omega]
      · rw [List.getElem?_eq_none (by simp; omega), List.getElem?_eq_none (by simp; omega)]
    · refine ⟨rfl, rfl, rfl, by simp, fun k hk hne => ?_⟩
      show (w.heap.modify g _)[k]? = _
      rw [Array.getElem?_modify, if_neg (by intro e; exact hne (by rw [e]))]
theorem below_growS (w : World) (os : Array Obj) : Below w.heap.size w (grow w os) := ⟨rfl, rfl, rfl, by simp, fun k hk => heap_grow_old w os hk⟩
theorem grown_grow {w w' : World} {g : Nat} (h : w.grownBy w' (some g)) (os : Array Obj) : w.grownBy (grow w' os) (some g) :=
  ⟨h.os, h.tape, h.output, by have := h.size; simp; omega, fun k hk hne => (heap_grow_old w' os (by have := h.size; omega)).trans (h.block k hk hne)⟩
/-- Fewer elements of a row of one's own. -/
theorem own_shorter {w : World} {base : Nat} {e : TypeId} {g n m cap : Nat} {xs : List Value} (h : w.ownsRow base e 1 (.slice (some ⟨g, 0, none⟩) n cap) n xs) (hm : m ≤ n) : w.ownsRow base e 1 (.slice (some ⟨g, 0, none⟩) m cap) m (xs.take m) := by
  have hl := h.1
  rcases h.2 with ⟨h0, _⟩ | ⟨g', cap', cur, hv, hb, hg, hn, hmx, hs, hx⟩
  · cases h0
  · injection hv with e1 e2 e3
    injection e1 with e1
    injection e1 with e1
    subst e1 e3
    refine ⟨by rw [List.length_take]; omega, .inr ⟨g, cap, cur, rfl, hb, hg, by omega, hmx, hs, ?_⟩⟩
    rw [← hx, List.take_take, Nat.min_eq_left (by omega), Nat.mul_one]
end Go.Proofs.YtjggkgdojhlhpaaGreat

/- slices.Sort, slices.Compact and slices.Clone on rows of numbers of the call's own; SortList, rising, l00Put. -/
namespace Go.Proofs.YtjggkgdojhlhpaaGreat
open Go.RowKit Go.Sort
set_option linter.all false
end Go.Proofs.YtjggkgdojhlhpaaGreat

/- Registers: SortList, registersCode, moveRegister, MoveRegister, ClearRegister and the reference's l00Has, l07Apart, l07Clear, l07Move, MoveRegister, ClearRegister. -/
namespace Go.Proofs.YtjggkgdojhlhpaaGreat
open Go.RowKit
set_option linter.all false
attribute [local go_sem ↓] Go.wp_at_zero Go.wp_at_succ

theorem own_cap {w : World} {base : Nat} {e : TypeId} {size n : Nat} {v : Value} {xs : List Value} (h : w.ownsRow base e size v n xs) : ∀ A c, v = .slice A n c → n ≤ c := by
  intro A c hv
  rcases h.2 with ⟨h0, h1⟩ | ⟨g, cap, cur, h0, _, _, h1, _⟩
  · omega
  · rw [h0] at hv; injection hv with _ _ h3; omega
/-- The code for registers that must be different. -/
def regsCode (xs : List Int) : Int := if xs.all (inB · 0 23) then (if nodupB xs then 0 else 4) else 2
theorem upB_srt (xs : List Int) : upB (srt xs) = nodupB xs := by
  rw [Bool.eq_iff_iff, upB_iff]
  have hle := srt_le xs
  have h0 : nodupB xs = true ↔ (srt xs).Nodup := by rw [(srt_perm xs).nodup_iff]; simp [nodupB]
  rw [h0]
  have hg : ∀ j, j < (srt xs).length → ∀ h : j < (srt xs).length, (srt xs).getD j 0 = (srt xs)[j] := by intro j _ h; exact getD_at (List.getElem?_eq_getElem h)
  constructor
  · intro h
    rw [List.nodup_iff_pairwise_ne, List.pairwise_iff_getElem]
    intro i j hi hj hij
    have h1 := h i (by omega)
    rw [hg i hi hi, hg (i + 1) (by omega) (by omega)] at h1
    have h2 : (srt xs)[i + 1]'(by omega) ≤ (srt xs)[j] := by
      by_cases e : i + 1 = j
      · subst e; omega
      · exact List.pairwise_iff_getElem.1 hle (i + 1) j (by omega) hj (by omega)
    omega
  · intro h j hj
    rw [hg j (by omega) (by omega), hg (j + 1) hj hj]
    have h1 := List.pairwise_iff_getElem.1 hle j (j + 1) (by omega) hj (by omega)
    have h2 := List.pairwise_iff_getElem.1 (List.nodup_iff_pairwise_ne.1 h) j (j + 1) (by omega) hj (by omega)
    omega

/-- The instructions that add to the registers ts of n in all. -/
def incs (n : Nat) (ts : List Int) : List R4 := ts.mapIdx fun k t => ⟨0, t, if k + 1 = n then 0 else (k : Int) + 2, 0⟩
theorem incs_len (n : Nat) (ts : List Int) : (incs n ts).length = ts.length := by simp [incs]
theorem incs_step {n : Nat} {ts : List Int} {k : Nat} {t : Int} (h : ts[k]? = some t) : incs n (ts.take (k + 1)) = incs n (ts.take k) ++ [⟨0, t, if k + 1 = n then 0 else (k : Int) + 2, 0⟩] := by
  have hk := (List.getElem?_eq_some_iff.1 h).1
  unfold incs
  rw [List.take_add_one, h, List.mapIdx_append]
  simp [List.length_take, Nat.min_eq_left (Nat.le_of_lt hk)]
/-- The program that adds a register to others and makes it 0. -/
def moveP (f : Int) (ts : List Int) : List R4 := if ts.length = 0 then [⟨1, f, 0, 1⟩] else ⟨1, f, 1, (ts.length : Int) + 1⟩ :: incs ts.length ts
theorem moveP_len (f : Int) (ts : List Int) : (moveP f ts).length = ts.length + 1 := by
  unfold moveP; split
  · rename_i h; simp [h]
  · simp [incs_len]
theorem moveP_near (f : Int) (ts : List Int) (h : ts.length ≤ 1048576) : Near (moveP f ts) ∧ Kinds (moveP f ts) := by
  unfold moveP
  split
  · constructor
    · intro x hx; rw [List.mem_singleton] at hx; subst hx; simp
    · intro x hx; rw [List.mem_singleton] at hx; subst hx; simp
  · constructor
    · intro x hx
      rcases List.mem_cons.1 hx with rfl | hx
      · simp; omega
      · unfold incs at hx
        obtain ⟨i, hi, rfl⟩ := List.mem_mapIdx.1 hx
        simp only
        split <;> omega
    · intro x hx
      rcases List.mem_cons.1 hx with rfl | hx
      · simp
      · unfold incs at hx
        obtain ⟨i, hi, rfl⟩ := List.mem_mapIdx.1 hx
        simp

/-- The list of an assembly, read at the end. -/
theorem Asm.list {W : World} {B g : Nat} {xs : List R4} (h : Asm W B g xs) : ∃ v, W.cell? ⟨g, 0, none⟩ = some v ∧ W.ownsRow B 66 4 v xs.length (rows R4.vs xs) := by
  obtain ⟨_, v, hg, ho⟩ := h
  obtain ⟨g1, g2, -⟩ := var_facts hg
  exact ⟨v, g1, ho⟩

set_option maxRecDepth 100000 in
set_option maxHeartbeats 1000000 in
theorem moveRegister_any (f : Int) (v0 : Value) (n : Nat) (ts : List Int) (w : World) (hsrc : Src 1 w v0 n (ts.map (Value.int .i64))) (hn : n ≤ 1000) :
    Calls Tryz.prog 86 #[.int .i64 f, v0] w fun e w' => ∃ v, e = .returned v ∧ w'.ownsRow w.heap.size 66 4 v (n + 1) (rows R4.vs (moveP f ts)) ∧ Below w.heap.size w w' := by
  have HL : Hid (ts.length = n) := by have := hsrc.1; simpa [Hid] using this
  obtain ⟨A0, c0, rfl⟩ := hsrc.form
  have hasm : Asm (w.alloc (.cells #[.slice none 0 0] 97)) w.heap.size w.heap.size [] := ⟨Nat.le_refl _, _, heap_alloc_new _ _, World.ownsRow_nil _ _ _ _⟩
  have hb0 := laid_below w (.cells #[.slice none 0 0] 97)
  by_cases h0 : n = 0
  · subst h0
    have HM : Hid (moveP f ts = [⟨1, f, 0, 1⟩]) := by unfold Hid moveP; rw [if_pos HL.out]
    go_enter Tryz.func86, Tryz.ntmps86
    go_wp2_with fail
    refine (asmDec_any w.heap.size w.heap.size f 0 1 [] _ hasm (by simp)).mono ?_
    rintro e w1 ⟨rfl, hasm1, hb1⟩
    obtain ⟨v, hc, hown⟩ := hasm1.list
    clear hasm hasm1
    go_wp2
    go_ret
    exact ⟨_, rfl, by rw [HM.out]; exact hown, hb0.trans hb1⟩
  have hi0 : ((n : Int) == 0) = false := by simp [h0]
  have HM : Hid (moveP f ts = ⟨1, f, 1, (n : Int) + 1⟩ :: incs n ts) := by unfold Hid moveP; rw [HL.out, if_neg h0]
  have ha := hsrc.arg
  clear hsrc
  go_enter Tryz.func86, Tryz.ntmps86
  go_wp2_with fail
  refine (size_int64_any _ _ _ _).mono ?_
  rintro e w1 ⟨rfl, hw1⟩
  subst hw1
  go_wp2_with fail
  refine (asmDec_any w.heap.size w.heap.size f 1 ((n : Int) + 1) [] _ hasm (by simp)).mono ?_
  rintro e w1 ⟨rfl, hasm1, hb1⟩
  have hB1 := hb0.trans hb1
  clear hasm hb0 hb1
  go_wp2
  go_loopw [28] (fun i wr => ∃ k : Nat, k ≤ n ∧ i = .int .i64 k ∧ Below w.heap.size w wr ∧ Asm wr w.heap.size w.heap.size (⟨1, f, 1, (n : Int) + 1⟩ :: incs n (ts.take k))) (fun i _ => n - (intOf i).toNat)
  case atStart => exact ⟨0, Nat.zero_le _, rfl, hB1, hasm1⟩
  case round =>
    obtain ⟨k, hk, rfl, hB, hasmk⟩ := hrel
    by_cases hlt : k < n
    · obtain ⟨b, off, rfl, hs⟩ := ha.sl hlt
      obtain ⟨t, HT, ht⟩ := map_at (Value.int .i64) ts (k := k) (by have := HL.out; omega)
      have hct := (hs.below' hB).at ht
      clear ht
      have hlen : (⟨1, f, 1, (n : Int) + 1⟩ :: incs n (ts.take k) : List R4).length ≤ 1000000 := by simp [incs_len]; omega
      by_cases hlast : k + 1 = n
      · have hil : ((k : Int) == (n : Int) - 1) = true := by simp; omega
        have HS : Hid (incs n (ts.take (k + 1)) = incs n (ts.take k) ++ [⟨0, t, 0, 0⟩]) := by unfold Hid; rw [incs_step HT.out, if_pos hlast]
        have HX := Lib.hid hlast; clear hlast
        go_wp2_with fail
        refine (asmInc_any _ _ t 0 _ _ hasmk hlen).mono ?_
        rintro e w2 ⟨rfl, hasm2, hb2⟩
        have hB2 := hB.trans hb2
        rw [List.cons_append, ← HS.out] at hasm2
        clear hasmk hb2 hlen
        go_wp2
        go_roundw
        case rel => exact ⟨k + 1, by omega, by go_num, hB2, hasm2⟩
        case measure => simp [intOf]; omega
      · have hil : ((k : Int) == (n : Int) - 1) = false := by simp; omega
        have HS : Hid (incs n (ts.take (k + 1)) = incs n (ts.take k) ++ [⟨0, t, (k : Int) + 2, 0⟩]) := by unfold Hid; rw [incs_step HT.out, if_neg hlast]
        clear hlast
        go_wp2_with fail
        refine (asmInc_any _ _ t ((k : Int) + 2) _ _ hasmk hlen).mono ?_
        rintro e w2 ⟨rfl, hasm2, hb2⟩
        have hB2 := hB.trans hb2
        rw [List.cons_append, ← HS.out] at hasm2
        clear hasmk hb2 hlen
        go_wp2
        go_roundw
        case rel => exact ⟨k + 1, by omega, by go_num, hB2, hasm2⟩
        case measure => simp [intOf]; omega
    · obtain rfl : n = k := by omega
      rw [List.take_of_length_le (by have := HL.out; omega)] at hasmk
      obtain ⟨v, hc, hown⟩ := hasmk.list
      clear hasmk
      have HN : Hid ((⟨1, f, 1, (n : Int) + 1⟩ :: incs n ts : List R4).length = n + 1) := by have := HL.out; unfold Hid; simp [incs_len, this]
      rw [HN.out] at hown
      go_wp2
      go_ret
      exact ⟨_, rfl, by rw [HM.out]; exact hown, hB⟩

theorem l07Clear_any (f : Int) (w : World) : Calls Tryz.prog 56 #[.int .i64 f] w fun e w' => ∃ v, e = .returned v ∧ w'.ownsRow w.heap.size 66 4 v 1 (rows R4.vs [⟨1, f, 0, 1⟩]) ∧ Below w.heap.size w w' := by
  go_enter Tryz.func56, Tryz.ntmps56
  go_wp2
  go_ret
  exact ⟨_, rfl, own_laid w _ 4 1 _ rfl (by simp [maxLen]), laid_below _ _⟩

set_option maxRecDepth 100000 in
set_option maxHeartbeats 1000000 in
theorem l07Move_any (f : Int) (A0 : Option Addr) (n c0 : Nat) (ts : List Int) (w : World) (ha : Arg w A0 n (ts.map (Value.int .i64))) (hn : n ≤ 1000) :
    Calls Tryz.prog 75 #[.int .i64 f, .slice A0 n c0] w fun e w' => ∃ v, e = .returned v ∧ w'.ownsRow w.heap.size 66 4 v (n + 1) (rows R4.vs (moveP f ts)) ∧ Below w.heap.size w w' := by
  have HL : Hid (ts.length = n) := by have := ha.1; simpa [Hid] using this
  by_cases h0 : n = 0
  · subst h0
    have HM : Hid (moveP f ts = [⟨1, f, 0, 1⟩]) := by unfold Hid moveP; rw [if_pos HL.out]
    go_enter Tryz.func75, Tryz.ntmps75
    go_wp2_with fail
    refine (l07Clear_any f _).mono ?_
    rintro e w1 ⟨v, rfl, hown, hb⟩
    go_wp2
    go_ret
    exact ⟨_, rfl, by rw [HM.out]; exact hown, hb⟩
  have hi0 : ((n : Int) == 0) = false := by simp [h0]
  have HM : Hid (moveP f ts = ⟨1, f, 1, (n : Int) + 1⟩ :: incs n ts) := by unfold Hid moveP; rw [HL.out, if_neg h0]
  have hown0 : (w.alloc (.cells #[.int .i64 1, .int .i64 f, .int .i64 1, .int .i64 ((n : Int) + 1)] 66)).ownsRow w.heap.size 66 4 (.slice (some ⟨w.heap.size, 0, none⟩) 1 1) 1 (rows R4.vs [⟨1, f, 1, (n : Int) + 1⟩]) := own_laid w _ 4 1 _ rfl (by simp [maxLen])
  have hb0 := laid_below w (.cells #[.int .i64 1, .int .i64 f, .int .i64 1, .int .i64 ((n : Int) + 1)] 66)
  go_enter Tryz.func75, Tryz.ntmps75
  go_wp2
  go_loopw [6, 7] (fun v i wr => ∃ k : Nat, k ≤ n ∧ i = .int .i64 k ∧ wr.ownsRow w.heap.size 66 4 v (1 + k) (rows R4.vs (⟨1, f, 1, (n : Int) + 1⟩ :: incs n (ts.take k))) ∧ Below w.heap.size w wr) (fun _ i _ => n - (intOf i).toNat)
  case atStart => exact ⟨0, Nat.zero_le _, rfl, hown0, hb0⟩
  case round =>
    obtain ⟨k, hk, rfl, hown, hB⟩ := hrel
    clear hown0 hb0
    by_cases hlt : k < n
    · obtain ⟨b, off, rfl, hs⟩ := ha.sl hlt
      obtain ⟨t, HT, ht⟩ := map_at (Value.int .i64) ts (k := k) (by have := HL.out; omega)
      have hct := (hs.below' hB).at ht
      have HT2 := Lib.hid ht
      clear ht
      obtain ⟨r, hr⟩ : ∃ r : Int, r = if k + 1 = n then 0 else (k : Int) + 2 := ⟨_, rfl⟩
      have HS : Hid (incs n (ts.take (k + 1)) = incs n (ts.take k) ++ [⟨0, t, r, 0⟩]) := by unfold Hid; rw [hr]; exact incs_step HT.out
      have w2 : ((k : Int) + 2).tmod ((n : Int) + 1) = r := by
        rw [hr, Int.tmod_eq_emod_of_nonneg (by omega)]
        split
        · rename_i h; rw [show (k : Int) + 2 = (n : Int) + 1 by omega]; exact Int.emod_self
        · exact Int.emod_eq_of_lt (by omega) (by omega)
      have w3 : ((k : Int) + 2) % ((n : Int) + 1) = r := by rw [← w2, Int.tmod_eq_emod_of_nonneg (by omega)]
      have w4 : IntKind.i64.wrap r = r := IntWalk.i64_in _ (by rw [hr]; split <;> omega)
      clear hr
      obtain ⟨Av, cv, rfl⟩ := own_form hown
      have w6 : 0 ≤ (k : Int) := by omega
      have w7 : (k : Int) < (n : Int) := by omega
      have w8 : ((n : Int) + 1 = 0) = False := eq_false (by omega)
      have w9 : IntKind.i64.wrap ((k : Int) + 2) = (k : Int) + 2 := IntWalk.i64_in _ (by omega)
      have w10 : IntKind.i64.wrap ((n : Int) + 1) = (n : Int) + 1 := IntWalk.i64_in _ (by omega)
      go_wp2
      go_region_held3 (fun w' => w'.cell? ⟨b, off + k, none⟩ = some (.int .i64 t)) (first | go_keep | exact (hs.below' hB1).at HT2.out)
        ((refine step_app (by rfl) _ _ _ (by rfl) Tryz.underlying39 infoInstr rfl (by omega) w wr hown hB (by rfl) 1 #[.int .i64 0, .int .i64 t, .int .i64 r, .int .i64 0] (by rfl) (laid_drew _ _) (heap_alloc_new _ _) rfl (by simp [Value.oneCell']) (by omega) (by unfold maxLen; omega) (by omega) ?_; intro g cap w1 hown1 hB1))
      clear w2 w3 w4 w6 w7 w8 w9 w10
      have hown2 : w1.ownsRow w.heap.size 66 4 (.slice (some ⟨g, 0, none⟩) (1 + k + 1) cap) (1 + (k + 1)) (rows R4.vs (⟨1, f, 1, (n : Int) + 1⟩ :: incs n (ts.take (k + 1)))) := by
        rw [HS.out, ← List.cons_append, rows_app, rows_one]; exact hown1
      clear hown1
      go_wp2
      go_roundw
      case rel => exact ⟨k + 1, by omega, by go_num, hown2, hB1⟩
      case measure => simp [intOf]; omega
    · obtain rfl : n = k := by omega
      rw [List.take_of_length_le (by have := HL.out; omega), Nat.add_comm] at hown
      go_wp2
      go_ret
      exact ⟨_, rfl, by rw [HM.out]; exact hown, hB⟩

/-- What MoveRegister gives. -/
def moveRegister (f : Int) (ts : List Int) : List R4 × Int :=
  if ts.length ≤ 24 then (if regsCode (f :: ts) = 0 then (moveP f ts, 0) else ([], regsCode (f :: ts))) else ([], 2)
theorem bndMoveRegister0 (f : Int) (ts : List Int) (h : ts.length ≤ 1048576) : (moveRegister f ts).1.length ≤ 1048576 := by
  unfold moveRegister
  split
  · split
    · show (moveP f ts).length ≤ _; rw [moveP_len]; omega
    · simp
  · simp
theorem regsCode_cases (xs : List Int) : regsCode xs = 0 ∨ regsCode xs = 2 ∨ regsCode xs = 4 := by
  unfold regsCode; split
  · split <;> simp
  · simp
end Go.Proofs.YtjggkgdojhlhpaaGreat

/- Programs one after the other: joinPrograms, copied, CopyRegister and the reference's l07Join, l07Copy, CopyRegister. -/
namespace Go.Proofs.YtjggkgdojhlhpaaGreat
open Go.RowKit
set_option linter.all false
attribute [local go_sem ↓] Go.wp_at_zero Go.wp_at_succ

def joinP (a b : List R4) : List R4 := a ++ b.map (redirF (tgt b.length ((a.length : Int) + b.length) a.length))
/-- Each target lies in the program or behind it. -/
def WfP (p : List R4) : Prop := ∀ x ∈ p, (0 ≤ x.c ∧ x.c ≤ p.length) ∧ (0 ≤ x.d ∧ x.d ≤ p.length) ∧ (x.a = 0 ∨ x.a = 1)
theorem WfP.near {p : List R4} (h : WfP p) (hl : p.length ≤ 1048576) : Near p := by
  intro x hx; obtain ⟨h1, h2, _⟩ := h x hx; omega
theorem WfP.kinds {p : List R4} (h : WfP p) : Kinds p := fun x hx => (h x hx).2.2
theorem joinP_len (a b : List R4) : (joinP a b).length = a.length + b.length := by simp [joinP]
theorem tgt_le {n : Nat} {halt by_ y m : Int} (h0 : 0 ≤ y) (h1 : y ≤ n) (hb : 0 ≤ by_) (hm : by_ + n ≤ m) (hh : 0 ≤ halt) (hh1 : halt ≤ m) : 0 ≤ tgt n halt by_ y ∧ tgt n halt by_ y ≤ m := by
  unfold tgt; split <;> omega
theorem redir_wf {b : List R4} {n : Nat} {halt by_ m : Int} (hb : WfP b) (hn : b.length = n) (h0 : 0 ≤ by_) (hm : by_ + n ≤ m) (hh : 0 ≤ halt) (hh1 : halt ≤ m) : ∀ x ∈ b.map (redirF (tgt n halt by_)), (0 ≤ x.c ∧ x.c ≤ m) ∧ (0 ≤ x.d ∧ x.d ≤ m) ∧ (x.a = 0 ∨ x.a = 1) := by
  intro x hx
  obtain ⟨y, hy, rfl⟩ := List.mem_map.1 hx
  obtain ⟨h1, h2, h3⟩ := hb y hy
  rw [hn] at h1 h2
  refine ⟨tgt_le h1.1 h1.2 h0 hm hh hh1, ?_, h3⟩
  show 0 ≤ (if y.a = 1 then tgt n halt by_ y.d else y.d) ∧ (if y.a = 1 then tgt n halt by_ y.d else y.d) ≤ m
  split
  · exact tgt_le h2.1 h2.2 h0 hm hh hh1
  · omega
theorem joinP_wf {a b : List R4} (ha : WfP a) (hb : WfP b) : WfP (joinP a b) := by
  intro x hx
  rw [joinP_len]
  unfold joinP at hx
  rcases List.mem_append.1 hx with hx | hx
  · obtain ⟨h1, h2, h3⟩ := ha x hx
    exact ⟨by omega, by omega, h3⟩
  · have := redir_wf (m := ((a.length + b.length : Nat) : Int)) hb rfl (by omega) (by omega) (by omega) (by omega) x hx
    exact this
theorem redir_id (p : List R4) (n : Nat) (k : Int) (hk : k = 0) : p.map (redirF (tgt n (n : Int) k)) = p := by
  subst hk
  have h : ∀ y, tgt n (n : Int) 0 y = y := by intro y; unfold tgt; split <;> omega
  rw [List.map_congr_left (g := id)]
  · simp
  · intro x _
    show (⟨x.a, x.b, tgt n (n : Int) 0 x.c, if x.a = 1 then tgt n (n : Int) 0 x.d else x.d⟩ : R4) = x
    rw [h, h]; simp
theorem joinP_nil (b : List R4) : joinP [] b = b := by
  show b.map (redirF (tgt b.length ((0 : Int) + b.length) 0)) = b
  rw [Int.zero_add]; exact redir_id b _ _ rfl
theorem moveP_wf (f : Int) (ts : List Int) : WfP (moveP f ts) := by
  intro x hx
  rw [moveP_len]
  unfold moveP at hx
  split at hx
  · rw [List.mem_singleton] at hx; subst hx; simp; omega
  · rcases List.mem_cons.1 hx with rfl | hx
    · simp; omega
    · unfold incs at hx
      obtain ⟨i, hi, rfl⟩ := List.mem_mapIdx.1 hx
      simp only
      split <;> simp <;> omega
/-- A register is added to another by way of a third. -/
def copyP (f t s : Int) : List R4 := joinP (moveP f [t, s]) (moveP s [f])
theorem copyP_len (f t s : Int) : (copyP f t s).length = 5 := by unfold copyP; rw [joinP_len, moveP_len, moveP_len]; rfl
theorem copyP_wf (f t s : Int) : WfP (copyP f t s) := joinP_wf (moveP_wf _ _) (moveP_wf _ _)

set_option maxRecDepth 100000 in
set_option maxHeartbeats 1000000 in
theorem joinPrograms_any (A1 A2 : Option Addr) (n1 n2 c1 c2 : Nat) (xa xb : List R4) (w : World) (h1 : Src 4 w (.slice A1 n1 c1) n1 (rows R4.vs xa)) (h2 : Src 4 w (.slice A2 n2 c2) n2 (rows R4.vs xb)) (hn1 : n1 ≤ 500000) (hn2 : n2 ≤ 500000) (hw1 : WfP xa) (hw2 : WfP xb) :
    Calls Tryz.prog 88 #[.slice A1 n1 c1, .slice A2 n2 c2] w fun e w' => ∃ g, e = .returned (.pointer (some ⟨g, 0, none⟩)) ∧ Asm w' w.heap.size g (joinP xa xb) ∧ Below w.heap.size w w' := by
  have HL1 : Hid (xa.length = n1) := by have := h1.1; rw [rows_len R4.vs_len] at this; unfold Hid; omega
  have HL2 : Hid (xb.length = n2) := by have := h2.1; rw [rows_len R4.vs_len] at this; unfold Hid; omega
  have near1 := hw1.near (by have := HL1.out; omega)
  have near2 := hw2.near (by have := HL2.out; omega)
  clear hw1 hw2
  have N1 := Lib.hid near1; have N2 := Lib.hid near2; clear near1 near2
  have hasm : Asm (w.alloc (.cells #[.slice none 0 0] 97)) w.heap.size w.heap.size [] := ⟨Nat.le_refl _, _, heap_alloc_new _ _, World.ownsRow_nil _ _ _ _⟩
  have hb0 := laid_below w (.cells #[.slice none 0 0] 97)
  go_enter Tryz.func88, Tryz.ntmps88
  go_wp2_with (go_at_call 33; refine (sizeOf_Instr_any _ _ _ _).mono ?_; rintro e w1 ⟨rfl, hw1⟩; subst hw1)
  refine (asmPart_any w.heap.size w.heap.size (n1 : Int) [] xa A1 n1 c1 _ hasm (by simp) (h1.below hb0) (by omega) N1.out).mono ?_
  rintro e w1 ⟨rfl, hasm1, hb1⟩
  have hB1 := hb0.trans hb1
  rw [List.nil_append, redir_id xa n1 ((([] : List R4).length : Nat) : Int) rfl] at hasm1
  clear hasm hb0 hb1
  go_wp2_with (go_at_call 33; refine (sizeOf_Instr_any _ _ _ _).mono ?_; rintro e w2 ⟨rfl, hw2⟩; subst hw2)
  refine (asmPart_any w.heap.size w.heap.size ((n1 : Int) + n2) xa xb A2 n2 c2 _ hasm1 (by have := HL1.out; omega) (h2.below hB1) (by omega) N2.out).mono ?_
  rintro e w2 ⟨rfl, hasm2, hb2⟩
  have hB2 := hB1.trans hb2
  go_wp2
  go_ret
  exact ⟨_, rfl, by unfold joinP; rw [HL1.out, HL2.out]; rw [HL1.out] at hasm2; exact hasm2, hB2⟩

set_option maxRecDepth 100000 in
set_option maxHeartbeats 1000000 in
theorem copied_any (f t : Int) (w : World) : Calls Tryz.prog 89 #[.int .i64 f, .int .i64 t] w fun e w' => ∃ v, e = .returned v ∧ w'.ownsRow w.heap.size 66 4 v 5 (rows R4.vs (copyP f t 23)) ∧ Below w.heap.size w w' := by
  have hb0 := laid_below w (.cells #[.int .i64 t, .int .i64 23] 2)
  have hs0 : Src 1 (w.alloc (.cells #[.int .i64 t, .int .i64 23] 2)) (.slice (some ⟨w.heap.size, 0, none⟩) 2 2) 2 ([t, 23].map (Value.int .i64)) := Src.of_sl (sl_laid w _ _) rfl
  go_enter Tryz.func89, Tryz.ntmps89
  go_wp2_with fail
  refine (moveRegister_any f _ 2 [t, 23] _ hs0 (by omega)).mono ?_
  rintro e w1 ⟨v1, rfl, hown1, hb1⟩
  have hB1 := below_step hb0 hb1
  obtain ⟨A1, c1, rfl⟩ := own_form hown1
  clear hs0 hb0 hb1
  have hb2 := laid_below w1 (.cells #[.int .i64 f] 2)
  have hs2 : Src 1 (w1.alloc (.cells #[.int .i64 f] 2)) (.slice (some ⟨w1.heap.size, 0, none⟩) 1 1) 1 ([f].map (Value.int .i64)) := Src.of_sl (sl_laid w1 _ _) rfl
  go_wp2_with fail
  refine (moveRegister_any 23 _ 1 [f] _ hs2 (by omega)).mono ?_
  rintro e w2 ⟨v2, rfl, hown2, hb3⟩
  have hb23 := below_step hb2 hb3
  have hB2 := below_step hB1 hb23
  have hs1 := (Src.of_own hown1).below hb23
  have hs2' := Src.of_own hown2
  obtain ⟨A2, c2, rfl⟩ := own_form hown2
  clear hs2 hb2 hb3 hown1 hown2
  go_wp2_with fail
  refine (joinPrograms_any A1 A2 _ _ c1 c2 _ _ _ hs1 hs2' (by omega) (by omega) (moveP_wf _ _) (moveP_wf _ _)).mono ?_
  rintro e w3 ⟨g, rfl, hasm, hb3⟩
  obtain ⟨v, hc, hown⟩ := hasm.list
  have hln := copyP_len f t 23
  unfold copyP at hln
  rw [hln] at hown
  clear hasm hln
  go_wp2
  go_ret
  exact ⟨_, rfl, own_base hown hB2.size, below_step hB2 hb3⟩

set_option maxRecDepth 100000 in
set_option maxHeartbeats 1000000 in
theorem l07Join_any (A1 A2 : Option Addr) (n1 n2 c1 c2 : Nat) (xa xb : List R4) (w : World) (h1 : Src 4 w (.slice A1 n1 c1) n1 (rows R4.vs xa)) (h2 : Src 4 w (.slice A2 n2 c2) n2 (rows R4.vs xb)) (hn1 : n1 ≤ 500000) (hn2 : n2 ≤ 500000) (hw2 : WfP xb) :
    Calls Tryz.prog 55 #[.slice A1 n1 c1, .slice A2 n2 c2] w fun e w' => ∃ v, e = .returned v ∧ w'.ownsRow w.heap.size 66 4 v (n1 + n2) (rows R4.vs (joinP xa xb)) ∧ Below w.heap.size w w' := by
  have HL1 : Hid (xa.length = n1) := by have := h1.1; rw [rows_len R4.vs_len] at this; unfold Hid; omega
  have HL2 : Hid (xb.length = n2) := by have := h2.1; rw [rows_len R4.vs_len] at this; unfold Hid; omega
  have N2 := Lib.hid (hw2.near (by have := HL2.out; omega))
  have K2 := Lib.hid hw2.kinds
  clear hw2
  have hown0 : (w.alloc (.cells #[] 66)).ownsRow w.heap.size 66 4 (.slice (some ⟨w.heap.size, 0, none⟩) 0 0) 0 [] := own_empty w 66 4
  have hB0 := laid_below w (.cells #[] 66)
  have hs1 := h1.below hB0
  have HO := Lib.hid (one_rows_Instr xa)
  have HO2 := Lib.hid (one_rows_Instr (xb.map (redirF (tgt n2 ((n1 : Int) + n2) n1))))
  clear h1
  go_enter Tryz.func55, Tryz.ntmps55
  go_wp2_with (at_builtin; refine wpList_appx rfl _ _ _ rfl Tryz.underlying39 infoInstr rfl (by omega) w.heap.size hown0 hB0.size rfl hs1 rfl HO.out (by unfold maxLen; omega) (by omega) ?_; intro v2 w2 hown2 hg2 hnil2; have hb1 := grown_below hB0 hown0 (Nat.le_refl _) hg2; clear hnil2 hown0 hB0 hs1 hg2; obtain ⟨A3, c3, rfl⟩ := own_form hown2; simp only [Nat.zero_add, List.nil_append] at hown2 ⊢)
  refine (l07Shift_any (n1 : Int) ((n1 : Int) + n2) A2 n2 c2 xb _ (h2.below hb1) (by omega) N2.out K2.out (by omega) (by omega)).mono ?_
  rintro e w3 ⟨v3, rfl, hown3, hb3⟩
  have hown4 := own_below' hown2 hb3
  have hB3 := below_step hb1 hb3
  have hsrc3 := Src.of_own hown3
  clear hown2 hown3 hb3
  go_wp2_with (at_builtin; refine wpList_appx rfl _ _ _ rfl Tryz.underlying39 infoInstr rfl (by omega) w.heap.size hown4 hB3.size rfl hsrc3 rfl HO2.out (by unfold maxLen; omega) (by omega) ?_; intro v5 w5 hown5 hg5 hnil5; have hB5 := grown_below hB3 hown4 (Nat.le_refl _) hg5; clear hnil5 hown4 hsrc3 hg5)
  go_ret
  exact ⟨_, rfl, by unfold joinP; rw [rows_app, HL1.out, HL2.out]; exact hown5, hB5⟩

set_option maxRecDepth 100000 in
set_option maxHeartbeats 1000000 in
theorem l07Copy_any (f t s : Int) (w : World) : Calls Tryz.prog 57 #[.int .i64 f, .int .i64 t, .int .i64 s] w fun e w' => ∃ v, e = .returned v ∧ w'.ownsRow w.heap.size 66 4 v 5 (rows R4.vs (copyP f t s)) ∧ Below w.heap.size w w' := by
  have hb0 := laid_below w (.cells #[.int .i64 t, .int .i64 s] 2)
  have hs0 : Arg (w.alloc (.cells #[.int .i64 t, .int .i64 s] 2)) (some ⟨w.heap.size, 0, none⟩) 2 ([t, s].map (Value.int .i64)) := Arg.of_sl (sl_laid w _ _) rfl
  go_enter Tryz.func57, Tryz.ntmps57
  go_wp2_with fail
  refine (l07Move_any f _ 2 2 [t, s] _ hs0 (by omega)).mono ?_
  rintro e w1 ⟨v1, rfl, hown1, hb1⟩
  have hB1 := below_step hb0 hb1
  obtain ⟨A1, c1, rfl⟩ := own_form hown1
  clear hs0 hb0 hb1
  have hb2 := laid_below w1 (.cells #[.int .i64 f] 2)
  have hs2 : Arg (w1.alloc (.cells #[.int .i64 f] 2)) (some ⟨w1.heap.size, 0, none⟩) 1 ([f].map (Value.int .i64)) := Arg.of_sl (sl_laid w1 _ _) rfl
  go_wp2_with fail
  refine (l07Move_any s _ 1 1 [f] _ hs2 (by omega)).mono ?_
  rintro e w2 ⟨v2, rfl, hown2, hb3⟩
  have hb23 := below_step hb2 hb3
  have hB2 := below_step hB1 hb23
  have hs1 := (Src.of_own hown1).below hb23
  have hs2' := Src.of_own hown2
  obtain ⟨A2, c2, rfl⟩ := own_form hown2
  clear hs2 hb2 hb3 hown1 hown2
  go_wp2_with fail
  refine (l07Join_any A1 A2 _ _ c1 c2 _ _ _ hs1 hs2' (by omega) (by omega) (moveP_wf _ _)).mono ?_
  rintro e w3 ⟨v, rfl, hown, hb3⟩
  go_wp2
  go_ret
  exact ⟨_, rfl, own_base hown hB2.size, below_step hB2 hb3⟩

/-- What CopyRegister gives. -/
def copyRegister (f t s : Int) : List R4 × Int := if regsCode [f, t, s] = 0 then (copyP f t s, 0) else ([], regsCode [f, t, s])
theorem bndCopyRegister0 (f t s : Int) : (copyRegister f t s).1.length ≤ 1048576 := by
  unfold copyRegister
  split
  · show (copyP f t s).length ≤ _; rw [copyP_len]; omega
  · simp
end Go.Proofs.YtjggkgdojhlhpaaGreat

/- Loop programs without LoopAgain: slices.ContainsFunc and IndexFunc with IsBounded's closure, IsBounded, the reference's IsBounded. -/
namespace Go.Proofs.YtjggkgdojhlhpaaGreat
open Go.RowKit
set_option linter.all false

def isAgain (x : R3) : Bool := decide (x.a = 4)
def isBoundedB (xs : List R3) : Bool := validL xs && !xs.any isAgain

end Go.Proofs.YtjggkgdojhlhpaaGreat

/- Bodies of loop programs: bodies with whatever function value; nesting; NestingOf on both sides. -/
namespace Go.Proofs.YtjggkgdojhlhpaaGreat
open Go.RowKit
set_option linter.all false
attribute [local go_sem ↓] Go.wp_at_zero Go.wp_at_succ

/-- How many commands the body of a command has. -/
def bodyLen (x : R3) : Nat := if isLp x then x.c.toNat else 0
theorem bodyLen_lp {x : R3} (h : isLp x = true) : bodyLen x = x.c.toNat := by simp [bodyLen, h]
theorem bodyLen_no {x : R3} (h : isLp x = false) : bodyLen x = 0 := by simp [bodyLen, h]
/-- How deep loops are nested. -/
def nest : List R3 → Nat
  | [] => 0
  | x :: l => max (if isLp x then 1 + nest (l.take (bodyLen x)) else 0) (nest (l.drop (bodyLen x)))
  termination_by l => l.length
  decreasing_by all_goals simp_wf; try omega
theorem nest_nil : nest [] = 0 := by rw [nest]
theorem nest_cons (x : R3) (l : List R3) : nest (x :: l) = max (if isLp x then 1 + nest (l.take (bodyLen x)) else 0) (nest (l.drop (bodyLen x))) := by rw [nest]
theorem nest_le (n : Nat) : ∀ xs : List R3, xs.length ≤ n → nest xs ≤ xs.length := by
  induction n with
  | zero => intro xs h; have : xs = [] := List.length_eq_zero_iff.1 (by omega); subst this; rw [nest_nil]; simp
  | succ n ih =>
    intro xs h
    cases xs with
    | nil => rw [nest_nil]; simp
    | cons x l =>
      rw [nest_cons]
      simp only [List.length_cons] at h ⊢
      have h1 := ih (l.take (bodyLen x)) (by rw [List.length_take]; omega)
      have h2 := ih (l.drop (bodyLen x)) (by rw [List.length_drop]; omega)
      rw [List.length_take] at h1
      rw [List.length_drop] at h2
      split <;> omega

theorem vl_split {d : Nat} {x : R3} {l : List R3} (h : vl d (x :: l) = true) :
    bodyLen x ≤ l.length ∧ vl d (l.drop (bodyLen x)) = true ∧ (isLp x = true → vl (d - 1) (l.take (bodyLen x)) = true ∧ 0 ≤ x.c ∧ 0 < d) := by
  cases hb : inB x.b 0 15 with
  | false => rw [vl_no1 hb] at h; cases h
  | true =>
    cases hi : isLp x with
    | true =>
      rw [vl_lp hb hi] at h
      simp only [Bool.and_eq_true, decide_eq_true_eq] at h
      obtain ⟨⟨⟨h1, h2⟩, h3⟩, h4⟩ := h
      rw [inB_iff] at h2
      rw [bodyLen_lp hi]
      exact ⟨by omega, h4, fun _ => ⟨h3, by omega, h1⟩⟩
    | false =>
      rw [bodyLen_no hi]
      refine ⟨Nat.zero_le _, ?_, fun e => by cases e⟩
      rw [List.drop_zero]
      by_cases h2 : x.a = 2
      · rw [vl_cp hb hi h2] at h; exact (Bool.and_eq_true _ _ ▸ h).2
      · rw [vl_el hb hi h2] at h; exact (Bool.and_eq_true _ _ ▸ h).2
/-- A command of a valid program. -/
theorem vl_kind {d : Nat} {x : R3} {l : List R3} (h : vl d (x :: l) = true) : 0 ≤ x.b ∧ x.b ≤ 15 ∧ (x.a = 0 ∨ x.a = 1 ∨ x.a = 3 ∨ x.a = 4 ∨ (x.a = 2 ∧ 0 ≤ x.c ∧ x.c ≤ 15)) := by
  cases hb : inB x.b 0 15 with
  | false => rw [vl_no1 hb] at h; cases h
  | true =>
    have hb' := (inB_iff _ _ _).1 hb
    refine ⟨hb'.1, hb'.2, ?_⟩
    cases hi : isLp x with
    | true => unfold isLp at hi; simp at hi; omega
    | false =>
      by_cases h2 : x.a = 2
      · rw [vl_cp hb hi h2] at h
        have := (inB_iff _ _ _).1 (Bool.and_eq_true _ _ ▸ h).1
        omega
      · rw [vl_el hb hi h2] at h
        have := (Bool.and_eq_true _ _ ▸ (Bool.and_eq_true _ _ ▸ h).1).1
        simp at this
        omega
theorem vl_step {d k : Nat} {x : R3} {xs : List R3} (hx : xs[k]? = some x) (h : vl d (xs.drop k) = true) :
    k + 1 + bodyLen x ≤ xs.length ∧ vl d (xs.drop (k + 1 + bodyLen x)) = true ∧ (isLp x = true → vl (d - 1) ((xs.drop (k + 1)).take (bodyLen x)) = true ∧ 0 ≤ x.c ∧ 0 < d) := by
  have hk := (List.getElem?_eq_some_iff.1 hx).1
  rw [drop_at hx] at h
  obtain ⟨h1, h2, h3⟩ := vl_split h
  rw [List.length_drop] at h1
  rw [List.drop_drop] at h2
  exact ⟨by omega, h2, h3⟩
theorem nest_step {k : Nat} {x : R3} {xs : List R3} (hx : xs[k]? = some x) : nest (xs.drop k) = max (if isLp x then 1 + nest ((xs.drop (k + 1)).take (bodyLen x)) else 0) (nest (xs.drop (k + 1 + bodyLen x))) := by
  rw [drop_at hx, nest_cons, List.drop_drop]
theorem Args.at_some {s : Nat} {w : World} {b off n : Nat} {xs : List Value} (h : Args s w (some ⟨b, off, none⟩) n xs) {k : Nat} (hk : k < n) : Sl w b off xs := by
  obtain ⟨b', off', e, h⟩ := h.sl hk
  injection e with e
  injection e with e1 e2
  subst e1 e2
  exact h

set_option maxRecDepth 100000 in
set_option maxHeartbeats 1000000 in
theorem bodies_any (F : FuncId) (caps : Array Value) (d : Nat) (I : Nat → World → Prop) (A : Option Addr) (n c : Nat) (xs : List R3) (w : World) (ha : Args 3 w A n (rows R3.vs xs)) (hn : n ≤ 1048576) (hc : n ≤ c) (hv : vl d xs = true)
    (hE : ∀ (args : Array Value) (W : World), (callFunc F args).run Tryz.prog W = .ok (.enter F args) W)
    (hI : Hid (∀ k W W', I k W → Below W.heap.size W W' → I k W')) (hA : Hid (∀ k W, I k W → Args 3 W A n (rows R3.vs xs)))
    (hF : Hid (∀ (k : Nat) (x : R3) (m : Nat) (A' : Option Addr) (c' : Nat) (W : World), xs[k]? = some x → bodyLen x = m → vl d (xs.drop k) = true → k + 1 + m ≤ n → m ≤ c' → Args 3 W A' m (rows R3.vs ((xs.drop (k + 1)).take m)) → I k W →
      Calls Tryz.prog F (#[.agg #[.int .i64 x.a, .int .i64 x.b, .int .i64 x.c], .slice A' m c'] ++ caps) W fun e w' => e = .returned (.tuple #[]) ∧ I (k + 1 + m) w'))
    (h0 : I 0 w) : Calls Tryz.prog 63 #[.slice A n c, .func (.func F) #[] caps] w fun e w' => e = .returned (.tuple #[]) ∧ I n w' := by
  have HL : Hid (xs.length = n) := by have := ha.1; rw [rows_len R3.vs_len] at this; unfold Hid; omega
  have HV0 := Lib.hid hv; clear hv
  go_enter Tryz.func63, Tryz.ntmps63
  go_wp2
  go_loopw [4] (fun i wr => ∃ k : Nat, k ≤ n ∧ i = .int .i64 k ∧ I k wr ∧ Hid (vl d (xs.drop k) = true)) (fun i _ => n - (intOf i).toNat)
  case atStart => exact ⟨0, Nat.zero_le _, rfl, h0, by have := HV0.out; simpa [Hid] using this⟩
  case round =>
    obtain ⟨k, hk, rfl, hIk, HV⟩ := hrel
    by_cases hlt : k < n
    · obtain ⟨b, off, rfl, hs⟩ := ha.sl hlt
      obtain ⟨x, HX⟩ := hget HL hlt
      obtain ⟨s1, s2, s3⟩ := vl_step HX.out HV.out
      have HV2 := Lib.hid s2; clear s2
      have S3 := Lib.hid s3; clear s3
      have hkm : k + 1 + bodyLen x ≤ n := by have := HL.out; omega
      clear s1
      obtain ⟨p0, p1, p2⟩ := (((hA.out k wr hIk).at_some hlt).below' (laid_below wr (.cells #[] 86))).rec3 HX.out
      rcases Bool.eq_false_or_eq_true (isLp x) with hv | hv
      · have HI := Lib.hid hv; clear hv
        go_wp2_with fail
        refine (isLoop_is x true HI.out _).mono ?_
        rintro e w1 ⟨rfl, hb1⟩
        have hI1 := hI.out k wr w1 hIk (below_step (laid_below _ _) hb1)
        obtain ⟨q0, q1, q2⟩ := ((hA.out k w1 hI1).at_some hlt).rec3 HX.out
        have HS0 := Lib.hid ((hA.out k w1 hI1).at_some hlt)
        clear hb1 p0 p1 p2
        obtain ⟨m, hm⟩ : ∃ m : Nat, x.c = m := ⟨x.c.toNat, by have := (S3.out HI.out).2.1; omega⟩
        have HB : Hid (bodyLen x = m) := by unfold Hid; rw [bodyLen_lp HI.out, hm]; simp
        rw [HB.out] at hkm HV2
        have hx3 : Value.agg #[.int .i64 x.a, .int .i64 x.b, .int .i64 x.c] = Value.agg #[.int .i64 x.a, .int .i64 x.b, .int .i64 (m : Int)] := by rw [hm]
        have HX3 := Lib.hid hx3; clear hx3
        have HM := Lib.hid hm; clear hm
        rw [HM.out] at q2
        obtain ⟨o', ho', hsl⟩ := run_slice_part (P := Tryz.prog) 59 86 Tryz.underlying59 infoLoop b off n c (k + 1) m ((k : Int) + 1) ((k : Int) + 1 + m) (by omega) (by omega) (by omega)
        have HS := Lib.hid (args_part R3.vs_len HS0.out (k + 1) m ho' (by have := HL.out; omega))
        clear ho'
        have hF1 := Lib.hid (hF.out k x m _ (c - (k + 1)) w1 HX.out HB.out HV.out (by omega) (by omega) HS.out hI1)
        rw [HX3.out] at hF1
        go_wp2_with fail
        · refine hF1.out.mono ?_
          rintro e w2 ⟨rfl, hI2⟩
          clear hsl q0 q1 q2
          go_wp2
          go_roundw
          case rel => exact ⟨k + 1 + m, by omega, by go_num, hI2, HV2⟩
          case measure => simp [intOf]; omega
      · have HI := Lib.hid hv; clear hv
        go_wp2_with fail
        refine (isLoop_is x false HI.out _).mono ?_
        rintro e w1 ⟨rfl, hb1⟩
        have hI1 := hI.out k wr w1 hIk (below_step (laid_below _ _) hb1)
        obtain ⟨q0, q1, q2⟩ := ((hA.out k w1 hI1).at_some hlt).rec3 HX.out
        clear hb1 p0 p1 p2
        have HB := Lib.hid (bodyLen_no HI.out)
        rw [HB.out] at hkm HV2
        have HF1 := Lib.hid (hF.out k x 0 (some ⟨wr.heap.size, 0, none⟩) 0 w1 HX.out HB.out HV.out (by omega) (by omega) ⟨by simp [rows], .inl rfl⟩ hI1)
        go_wp2_with fail
        · refine HF1.out.mono ?_
          rintro e w2 ⟨rfl, hI2⟩
          clear q0 q1 q2
          go_wp2
          go_roundw
          case rel => exact ⟨k + 1, by omega, by go_num, hI2, HV2⟩
          case measure => simp [intOf]; omega
    · obtain rfl : n = k := by omega
      go_wp2
      go_end0
      exact ⟨rfl, hIk⟩

end Go.Proofs.YtjggkgdojhlhpaaGreat

/- The register program of a loop program: plain lemmas. -/
namespace Go.Proofs.YtjggkgdojhlhpaaGreat
set_option linter.all false

/-- A body that is done as often as a counter says. -/
def timesP (c : Int) (body : List R4) : List R4 := ⟨1, c, if body.length = 0 then 0 else 1, (body.length : Int) + 1⟩ :: body.map (redirF (tgt body.length 0 1))
/-- The program of a command with the program of its body. -/
def cmdP (d : Int) (x : R3) (body : List R4) : List R4 :=
  if x.a = 0 then moveP x.b []
  else if x.a = 1 then [⟨0, x.b, 1, 0⟩]
  else if x.a = 2 then (if x.b = x.c then [] else joinP (moveP x.b []) (copyP x.c x.b 23))
  else if x.a = 3 then joinP (copyP x.b (16 + d) 23) (timesP (16 + d) body)
  else loopP x.b body
def progAt (d : Int) (acc : List R4) : List R3 → List R4
  | [] => acc
  | x :: l => progAt d (joinP acc (cmdP d x (progAt (d + 1) [] (l.take (bodyLen x))))) (l.drop (bodyLen x))
  termination_by l => l.length
  decreasing_by all_goals simp_wf; try omega
theorem progAt_nil (d : Int) (acc : List R4) : progAt d acc [] = acc := by rw [progAt]
theorem progAt_cons (d : Int) (acc : List R4) (x : R3) (l : List R3) : progAt d acc (x :: l) = progAt d (joinP acc (cmdP d x (progAt (d + 1) [] (l.take (bodyLen x))))) (l.drop (bodyLen x)) := by rw [progAt]
theorem redirF_comp (f g : Int → Int) (xs : List R4) : (xs.map (redirF f)).map (redirF g) = xs.map (redirF fun y => g (f y)) := by
  rw [List.map_map]
  apply List.map_congr_left
  intro x _
  obtain ⟨a, b, c, d⟩ := x
  by_cases h : a = 1 <;> simp [redirF, h]
theorem redirF_congr (f g : Int → Int) (xs : List R4) (h : ∀ y, f y = g y) : xs.map (redirF f) = xs.map (redirF g) := by
  have : f = g := funext h
  rw [this]
theorem times_eq (C : List R4) (hC : C.length = 5) (c : Int) (body : List R4) (n : Nat) (hn : body.length = n) :
    joinP C (timesP c body) = C ++ [⟨1, c, if n = 0 then 5 else 6, 5 + 1 + (n : Int)⟩] ++ body.map (redirF (tgt n 5 ((5 + 1 : Nat) : Int))) := by
  subst hn
  have hl : (timesP c body).length = body.length + 1 := by simp [timesP]
  unfold joinP
  rw [hl, hC, timesP, List.map_cons, redirF_comp, List.append_assoc]
  congr 1
  show _ :: _ = _ :: _
  congr 1
  · show (⟨1, c, tgt _ _ _ (if body.length = 0 then 0 else 1), if (1 : Int) = 1 then tgt _ _ _ ((body.length : Int) + 1) else _⟩ : R4) = _
    rw [if_pos rfl]
    have e1 : tgt (body.length + 1) (((5 : Nat) : Int) + ((body.length + 1 : Nat) : Int)) ((5 : Nat) : Int) (if body.length = 0 then 0 else 1) = if body.length = 0 then 5 else 6 := by
      unfold tgt
      by_cases h : body.length = 0
      · simp [h]
      · rw [if_neg h, if_neg h, if_neg (by omega)]; rfl
    have e2 : tgt (body.length + 1) (((5 : Nat) : Int) + ((body.length + 1 : Nat) : Int)) ((5 : Nat) : Int) ((body.length : Int) + 1) = 5 + 1 + (body.length : Int) := by
      unfold tgt
      rw [if_pos (by omega)]
      omega
    rw [e1, e2]
  · apply redirF_congr
    intro y
    unfold tgt
    by_cases h : y = (body.length : Int)
    · rw [if_pos h, if_pos h, if_neg (by omega)]; rfl
    · rw [if_neg h, if_neg h, if_neg (by omega)]; omega
theorem timesP_wf {body : List R4} (c : Int) (h : WfP body) : WfP (timesP c body) := by
  intro x hx
  have hl : (timesP c body).length = body.length + 1 := by simp [timesP]
  rw [hl]
  unfold timesP at hx
  rcases List.mem_cons.1 hx with rfl | hx
  · simp only
    refine ⟨?_, by omega, by simp⟩
    split <;> omega
  · exact redir_wf (m := ((body.length + 1 : Nat) : Int)) h rfl (by omega) (by omega) (by omega) (by omega) x hx
theorem loopP_wf {body : List R4} (r : Int) (h : WfP body) : WfP (loopP r body) := by
  intro x hx
  rw [loopP_len]
  unfold loopP at hx
  rcases List.mem_append.1 hx with hx | hx
  · rcases List.mem_cons.1 hx with rfl | hx
    · simp; omega
    · rw [List.mem_singleton] at hx
      subst hx
      simp only
      refine ⟨?_, by omega, by simp⟩
      split <;> omega
  · exact redir_wf (m := ((body.length + 2 : Nat) : Int)) h rfl (by omega) (by omega) (by omega) (by omega) x hx
theorem nil_wf : WfP [] := by intro x hx; cases hx
theorem cmdP_wf (d : Int) (x : R3) {body : List R4} (h : WfP body) : WfP (cmdP d x body) := by
  unfold cmdP
  split
  · exact moveP_wf _ _
  split
  · intro y hy; rw [List.mem_singleton] at hy; subst hy; simp
  split
  · split
    · exact nil_wf
    · exact joinP_wf (moveP_wf _ _) (copyP_wf _ _ _)
  split
  · exact joinP_wf (copyP_wf _ _ _) (timesP_wf _ h)
  · exact loopP_wf _ h
theorem cmdP_len (d : Int) (x : R3) (body : List R4) : (cmdP d x body).length ≤ 6 + body.length := by
  unfold cmdP
  split
  · rw [moveP_len]; simp; omega
  split
  · simp; omega
  split
  · split
    · simp
    · rw [joinP_len, moveP_len, copyP_len]; simp
  split
  · rw [joinP_len, copyP_len]; simp [timesP]; omega
  · rw [loopP_len]; omega
theorem progAt_facts (N : Nat) : ∀ (l : List R3) (d : Int) (acc : List R4), l.length ≤ N → acc.length ≤ (progAt d acc l).length ∧ (progAt d acc l).length ≤ acc.length + 6 * l.length ∧ (WfP acc → WfP (progAt d acc l)) := by
  induction N with
  | zero =>
    intro l d acc h
    have : l = [] := List.length_eq_zero_iff.1 (by omega)
    subst this
    rw [progAt_nil]
    exact ⟨Nat.le_refl _, by simp, id⟩
  | succ N ih =>
    intro l d acc h
    cases l with
    | nil => rw [progAt_nil]; exact ⟨Nat.le_refl _, by simp, id⟩
    | cons x l =>
      rw [progAt_cons]
      simp only [List.length_cons] at h ⊢
      obtain ⟨a1, a2, a3⟩ := ih (l.take (bodyLen x)) (d + 1) [] (by rw [List.length_take]; omega)
      obtain ⟨b1, b2, b3⟩ := ih (l.drop (bodyLen x)) d (joinP acc (cmdP d x (progAt (d + 1) [] (l.take (bodyLen x))))) (by rw [List.length_drop]; omega)
      have c1 := cmdP_len d x (progAt (d + 1) [] (l.take (bodyLen x)))
      rw [joinP_len] at b1 b2
      rw [List.length_take] at a2
      rw [List.length_drop] at b2
      simp only [List.length_nil] at a2
      exact ⟨by omega, by omega, fun hw => b3 (joinP_wf hw (cmdP_wf d x (a3 nil_wf)))⟩
theorem progAt_step {xs : List R3} {k : Nat} {x : R3} (d : Int) (acc : List R4) (h : xs[k]? = some x) :
    progAt d acc (xs.drop k) = progAt d (joinP acc (cmdP d x (progAt (d + 1) [] ((xs.drop (k + 1)).take (bodyLen x))))) (xs.drop (k + 1 + bodyLen x)) := by
  rw [drop_at h, progAt_cons, List.drop_drop]
/-- What ProgramOfLoop gives. -/
def programOfLoop (xs : List R3) : List R4 × Int := if validL xs then fits (progAt 0 [] xs) else ([], 1)
theorem bndProgramOfLoop0 (xs : List R3) (h : xs.length ≤ 1048576) : (programOfLoop xs).1.length ≤ 1048576 := by
  unfold programOfLoop
  split
  · have := fits_len (progAt 0 [] xs); omega
  · simp
end Go.Proofs.YtjggkgdojhlhpaaGreat

/- commandProgram: the program of a command with the program of its body. -/
namespace Go.Proofs.YtjggkgdojhlhpaaGreat
open Go.RowKit
set_option linter.all false
attribute [local go_sem ↓] Go.wp_at_zero Go.wp_at_succ

theorem cmd0 (d b c : Int) (p : List R4) : cmdP d ⟨0, b, c⟩ p = moveP b [] := by simp [cmdP]
theorem cmd1 (d b c : Int) (p : List R4) : cmdP d ⟨1, b, c⟩ p = [⟨0, b, 1, 0⟩] := by simp [cmdP]
theorem cmd2e (d b : Int) (p : List R4) : cmdP d ⟨2, b, b⟩ p = [] := by simp [cmdP]
theorem cmd2 (d b c : Int) (p : List R4) (h : b ≠ c) : cmdP d ⟨2, b, c⟩ p = joinP (moveP b []) (copyP c b 23) := by simp [cmdP, h]
theorem cmd3 (d b c : Int) (p : List R4) : cmdP d ⟨3, b, c⟩ p = joinP (copyP b (16 + d) 23) (timesP (16 + d) p) := by simp [cmdP]
theorem cmd4 (d b c : Int) (p : List R4) : cmdP d ⟨4, b, c⟩ p = loopP b p := by simp [cmdP]

theorem below_drew_b {B : Nat} {w w' : World} (h : Below B w.drew w') : Below B w w' := ⟨h.os, h.tape, h.output, h.size, h.block⟩
/-- What a command's parameter and the empty assembly look like. -/
structure Box (w w1 : World) (x : R3) : Prop where
  below : Below w.heap.size w w1
  k0 : w1.cell? ⟨w.heap.size, 0, none⟩ = some (.int .i64 x.a)
  k1 : w1.cell? ⟨w.heap.size, 1, none⟩ = some (.int .i64 x.b)
  k2 : w1.cell? ⟨w.heap.size, 2, none⟩ = some (.int .i64 x.c)
  asm : Asm w1 (w.heap.size + 1) (w.heap.size + 1) []
theorem box_mk (w : World) (x : R3) : ∃ w1, Hid (w1 = (w.alloc (.cells #[.int .i64 x.a, .int .i64 x.b, .int .i64 x.c] 86)).alloc (.cells #[.slice none 0 0] 97)) ∧ Box w w1 x := by
  refine ⟨_, rfl, ⟨((Below.refl _ _).alloc (Nat.le_refl _) _).alloc (by simp) _, by simp [go_sem], by simp [go_sem], by simp [go_sem], ?_⟩⟩
  refine ⟨Nat.le_refl _, _, ?_, World.ownsRow_nil _ _ _ _⟩
  have := heap_alloc_new (w.alloc (.cells #[.int .i64 x.a, .int .i64 x.b, .int .i64 x.c] 86)) (.cells #[.slice none 0 0] 97)
  simpa using this

set_option maxRecDepth 100000 in
set_option maxHeartbeats 1000000 in
theorem command0_any (d b c : Int) (A : Option Addr) (n cc : Nat) (w : World) :
    Calls Tryz.prog 65 #[.agg #[.int .i64 0, .int .i64 b, .int .i64 c], .slice A n cc, .int .i64 d] w fun e w' => ∃ v, e = .returned v ∧ w'.ownsRow w.heap.size 66 4 v 1 (rows R4.vs (moveP b [])) ∧ Below w.heap.size w w' := by
  obtain ⟨w1, HW, hbox⟩ := box_mk w ⟨0, b, c⟩
  have hB1 := hbox.below
  clear hbox
  go_enter Tryz.func65, Tryz.ntmps65
  go_wp2_with fail
  rw [← HW.out]
  refine (moveRegister_any b (.slice none 0 0) 0 [] _ ⟨rfl, .inl ⟨rfl, rfl⟩⟩ (by omega)).mono ?_
  rintro e w2 ⟨v, rfl, hown, hb2⟩
  go_wp2
  go_ret
  exact ⟨_, rfl, own_base hown hB1.size, below_step hB1 hb2⟩

set_option maxRecDepth 100000 in
set_option maxHeartbeats 1000000 in
theorem command1_any (d b c : Int) (A : Option Addr) (n cc : Nat) (w : World) :
    Calls Tryz.prog 65 #[.agg #[.int .i64 1, .int .i64 b, .int .i64 c], .slice A n cc, .int .i64 d] w fun e w' => ∃ v, e = .returned v ∧ w'.ownsRow w.heap.size 66 4 v 1 (rows R4.vs [⟨0, b, 1, 0⟩]) ∧ Below w.heap.size w w' := by
  obtain ⟨w1, HW, hbox⟩ := box_mk w ⟨1, b, c⟩
  have hB1 := hbox.below
  have hasm := hbox.asm
  clear hbox
  go_enter Tryz.func65, Tryz.ntmps65
  go_wp2_with fail
  rw [← HW.out]
  refine (asmInc_any _ _ b 1 [] _ hasm (by simp)).mono ?_
  rintro e w2 ⟨rfl, hasm2, hb2⟩
  obtain ⟨v, hc, hown⟩ := hasm2.list
  clear hasm hasm2
  go_wp2
  go_ret
  exact ⟨_, rfl, own_base hown (by omega), hB1.trans (hb2.mono (by omega))⟩

set_option maxRecDepth 100000 in
set_option maxHeartbeats 2000000 in
theorem command2_any (d b c : Int) (A : Option Addr) (n cc : Nat) (w : World) (hne : b ≠ c) :
    Calls Tryz.prog 65 #[.agg #[.int .i64 2, .int .i64 b, .int .i64 c], .slice A n cc, .int .i64 d] w fun e w' => ∃ v, e = .returned v ∧ w'.ownsRow w.heap.size 66 4 v 6 (rows R4.vs (joinP (moveP b []) (copyP c b 23))) ∧ Below w.heap.size w w' := by
  obtain ⟨w1, HW, hbox⟩ := box_mk w ⟨2, b, c⟩
  have hB1 := hbox.below
  have k1 := hbox.k1
  have k2 := hbox.k2
  clear hbox
  have e1 : (b == c) = false := by simpa using hne
  clear hne
  have HLN : Hid ((joinP (moveP b []) (copyP c b 23)).length = 6) := by unfold Hid; rw [joinP_len, moveP_len, copyP_len]; rfl
  go_enter Tryz.func65, Tryz.ntmps65
  go_wp2
  rw [← HW.out]
  go_region_with
    ((first
      | (go_at_call 86; refine (moveRegister_any b (.slice none 0 0) 0 [] _ ⟨rfl, .inl ⟨rfl, rfl⟩⟩ (by omega)).mono ?_; rintro e w2 ⟨v2, rfl, hown2, hb2⟩; have m1 := cell_step (by exact k1) hb2; have m2 := cell_step (by exact k2) hb2; obtain ⟨A2, c2, rfl⟩ := own_form hown2)
      | (go_at_call 89; refine (copied_any c b _).mono ?_; rintro e w3 ⟨v3, rfl, hown3, hb3⟩; have p1 := cell_step (by exact m1) hb3; have p2 := cell_step (by exact m2) hb3; obtain ⟨A3, c3, rfl⟩ := own_form hown3)
      | (go_at_call 88; refine (joinPrograms_any A2 A3 _ _ c2 c3 (moveP b []) (copyP c b 23) _ ((Src.of_own hown2).below (by exact hb3)) (by exact Src.of_own hown3) (by omega) (by omega) (moveP_wf _ _) (copyP_wf _ _ _)).mono ?_; rintro e w4 ⟨g4, rfl, hasm4, hb4⟩; have q1 := cell_step (by exact p1) hb4; have q2 := cell_step (by exact p2) hb4; obtain ⟨v4, hc4, hown4⟩ := hasm4.list)))
  all_goals
    go_wp2
    go_ret
    rw [HLN.out] at hown4
    exact ⟨_, rfl, own_base hown4 (Nat.le_trans hB1.size (Nat.le_trans (by exact hb2.size) hb3.size)), below_step hB1 (below_step (below_step (below_drew_at hb2) hb3) hb4)⟩

set_option maxRecDepth 100000 in
set_option maxHeartbeats 2000000 in
theorem command3_any (d b c : Int) (A : Option Addr) (n cc : Nat) (p : List R4) (w : World) (hsrc : Src 4 w (.slice A n cc) n (rows R4.vs p)) (hwf : WfP p) (hn : n ≤ 100000) (hd0 : 0 ≤ d) (hd : d ≤ 1000) :
    Calls Tryz.prog 65 #[.agg #[.int .i64 3, .int .i64 b, .int .i64 c], .slice A n cc, .int .i64 d] w fun e w' => ∃ v, e = .returned v ∧ w'.ownsRow w.heap.size 66 4 v (6 + n) (rows R4.vs (joinP (copyP b (16 + d) 23) (timesP (16 + d) p))) ∧ Below w.heap.size w w' := by
  have HL : Hid (p.length = n) := by have := hsrc.1; rw [rows_len R4.vs_len] at this; unfold Hid; omega
  have HN := Lib.hid (hwf.near (by have := HL.out; omega)); clear hwf
  obtain ⟨w1, HW, hbox⟩ := box_mk w ⟨3, b, c⟩
  have hB1 := hbox.below
  have hasm := hbox.asm
  obtain ⟨hBg, v0, hg0, -⟩ := hasm
  clear hbox
  have main : ∀ t : Int, ((n = 0 ∧ t = 5) ∨ (n ≠ 0 ∧ t = 6)) → Calls Tryz.prog 65 #[.agg #[.int .i64 3, .int .i64 b, .int .i64 c], .slice A n cc, .int .i64 d] w fun e w' => ∃ v, e = .returned v ∧ w'.ownsRow w.heap.size 66 4 v (6 + n) (rows R4.vs (copyP b (16 + d) 23 ++ [⟨1, 16 + d, t, 6 + (n : Int)⟩] ++ p.map (redirF (tgt n 5 ((5 + 1 : Nat) : Int))))) ∧ Below w.heap.size w w' := by
    intro t ht
    rcases ht with ⟨h0, rfl⟩ | ⟨h0, rfl⟩
    all_goals
      first
        | (have e0 : ((n : Int) == 0) = true := by simp [h0])
        | (have e0 : ((n : Int) == 0) = false := by simp [h0])
      clear h0
      go_enter Tryz.func65, Tryz.ntmps65
      go_wp2_with fail
      rw [← HW.out]
      refine (copied_any b (16 + d) _).mono ?_
      rintro e w2 ⟨v2, rfl, hown2, hb2⟩
      have hg2 := (hb2.block _ (heap_lt hg0)).trans hg0
      obtain ⟨f1, f2, -⟩ := var_facts hg2
      have HG2 := Lib.hid hg2; clear hg2
      obtain ⟨A2, c2, rfl⟩ := own_form hown2
      have hB2 := below_step hB1 hb2
      have hasm2 := Asm.put (u := .slice A2 5 c2) hBg HG2.out (copyP_len b (16 + d) 23) (own_base hown2 (by have := World.block_lt_of_cell? _ _ f1; have := heap_lt hg0; omega))
      have hB3 := hB2.setCell (p := ⟨w.heap.size + 1, 0, none⟩) (by simp) (.slice A2 5 c2)
      go_wp2_with (go_at_call 33; refine (sizeOf_Instr_any _ _ _ _).mono ?_; rintro e w3 ⟨rfl, hw3⟩; subst hw3)
      refine (asmDec_any _ _ _ _ _ _ _ hasm2 (by rw [copyP_len]; omega)).mono ?_
      rintro e w4 ⟨rfl, hasm4, hb4⟩
      have hB4 := hB3.trans (hb4.mono (by omega))
      clear hasm2 hb4
      go_wp2_with fail
      refine (asmPart_any _ _ _ _ p A n cc _ hasm4 (by rw [List.length_append, copyP_len]; simp) (hsrc.below hB4) (by omega) HN.out).mono ?_
      rintro e w5 ⟨rfl, hasm5, hb5⟩
      have hB5 := hB4.trans (hb5.mono (by omega))
      rw [List.length_append, copyP_len] at hasm5
      obtain ⟨v5, hc5, hown5⟩ := hasm5.list
      clear hasm4 hasm5 hb5
      have HLN : Hid (∀ t0 : R4, (copyP b (16 + d) 23 ++ [t0] ++ p.map (redirF (tgt n 5 ((5 + 1 : Nat) : Int)))).length = 6 + n) := by intro t0; have := HL.out; simp [copyP_len, this]; omega
      go_wp2
      go_ret
      refine ⟨_, rfl, ?_, hB5⟩
      have h6 := own_base hown5 (show w.heap.size ≤ w.heap.size + 1 by omega)
      have hl6 : ∀ ys : List R4, ys.length = 6 + n → w5.ownsRow w.heap.size 66 4 v5 ys.length (rows R4.vs ys) → w5.ownsRow w.heap.size 66 4 v5 (6 + n) (rows R4.vs ys) := by intro ys h hh; rw [h] at hh; exact hh
      exact hl6 _ (HLN.out _) h6
  have h56 : (5 : Int) + 1 + (n : Int) = 6 + (n : Int) := by omega
  by_cases h0 : n = 0
  · have h1 := main 5 (.inl ⟨h0, rfl⟩)
    have h2 := times_eq (copyP b (16 + d) 23) (copyP_len _ _ _) (16 + d) p n HL.out
    rw [if_pos h0, h56] at h2
    rw [h2]; exact h1
  · have h1 := main 6 (.inr ⟨h0, rfl⟩)
    have h2 := times_eq (copyP b (16 + d) 23) (copyP_len _ _ _) (16 + d) p n HL.out
    rw [if_neg h0, h56] at h2
    rw [h2]; exact h1

set_option maxRecDepth 100000 in
set_option maxHeartbeats 2000000 in
theorem command4_any (d b c : Int) (A : Option Addr) (n cc : Nat) (p : List R4) (w : World) (hsrc : Src 4 w (.slice A n cc) n (rows R4.vs p)) (hwf : WfP p) (hn : n ≤ 100000) :
    Calls Tryz.prog 65 #[.agg #[.int .i64 4, .int .i64 b, .int .i64 c], .slice A n cc, .int .i64 d] w fun e w' => ∃ v, e = .returned v ∧ w'.ownsRow w.heap.size 66 4 v (n + 2) (rows R4.vs (loopP b p)) ∧ Below w.heap.size w w' := by
  have HL : Hid (p.length = n) := by have := hsrc.1; rw [rows_len R4.vs_len] at this; unfold Hid; omega
  have HN := Lib.hid (hwf.near (by have := HL.out; omega)); clear hwf
  obtain ⟨w1, HW, hbox⟩ := box_mk w ⟨4, b, c⟩
  have hB1 := hbox.below
  have hasm := hbox.asm
  have k1 := hbox.k1
  clear hbox
  have w9 : IntKind.i64.wrap ((n : Int) + 2) = (n : Int) + 2 := IntWalk.i64_in _ (by omega)
  have main : ∀ t : Int, ((n = 0 ∧ t = 0) ∨ (n ≠ 0 ∧ t = 2)) → Calls Tryz.prog 65 #[.agg #[.int .i64 4, .int .i64 b, .int .i64 c], .slice A n cc, .int .i64 d] w fun e w' => ∃ v, e = .returned v ∧ w'.ownsRow w.heap.size 66 4 v (n + 2) (rows R4.vs ([] ++ [⟨1, b, 1, (n : Int) + 2⟩] ++ [⟨0, b, t, 0⟩] ++ p.map (redirF (tgt n 0 2)))) ∧ Below w.heap.size w w' := by
    intro t ht
    rcases ht with ⟨h0, rfl⟩ | ⟨h0, rfl⟩
    all_goals
      first
        | (have e0 : ((n : Int) == 0) = true := by simp [h0])
        | (have e0 : ((n : Int) == 0) = false := by simp [h0])
      clear h0
      go_enter Tryz.func65, Tryz.ntmps65
      go_wp2
      rw [← HW.out]
      go_region_with
        ((first
          | (go_at_call 33; refine (sizeOf_Instr_any _ _ _ _).mono ?_; rintro e w2 ⟨rfl, hw2⟩; subst hw2)
          | (go_at_call 90; refine (asmDec_any _ _ b 1 ((n : Int) + 2) [] _ (by exact hasm) (by simp)).mono ?_; rintro e w3 ⟨rfl, hasm3, hb3⟩; have m1 : w3.cell? ⟨w.heap.size, 1, none⟩ = some (.int .i64 b) := (hb3.cell (p := ⟨w.heap.size, 1, none⟩) (by show w.heap.size < _; omega)).trans (by exact k1))
          | (go_at_call 87; refine (asmInc_any _ _ b _ _ _ (by exact hasm3) (by simp)).mono ?_; rintro e w4 ⟨rfl, hasm4, hb4⟩; have hB4 := (hB1.trans ((below_drew_b hb3).mono (by omega))).trans (hb4.mono (by omega)); have hs4 := hsrc.below hB4)
          | (go_at_call 66; refine (asmPart_any _ _ 0 _ p A n cc _ (by exact hasm4) (by simp) hs4 (by omega) HN.out).mono ?_; rintro e w5 ⟨rfl, hasm5, hb5⟩; obtain ⟨v5, hc5, hown5⟩ := hasm5.list)))
      all_goals
        have HLN : Hid (∀ t0 t1 : R4, ([] ++ [t0] ++ [t1] ++ p.map (redirF (tgt n 0 2)) : List R4).length = n + 2) := by intro t0 t1; have := HL.out; simp [this]
        go_wp2
        go_ret
        have hl6 : ∀ ys : List R4, ys.length = n + 2 → w5.ownsRow (w.heap.size + 1) 66 4 v5 ys.length (rows R4.vs ys) → w5.ownsRow w.heap.size 66 4 v5 (n + 2) (rows R4.vs ys) := by intro ys h hh; rw [h] at hh; exact own_base hh (by omega)
        exact ⟨_, rfl, hl6 _ (HLN.out _ _) hown5, hB4.trans (hb5.mono (by omega))⟩
  by_cases h0 : n = 0
  · have h1 := main 0 (.inl ⟨h0, rfl⟩)
    unfold loopP
    rw [HL.out, if_pos h0]; exact h1
  · have h1 := main 2 (.inr ⟨h0, rfl⟩)
    unfold loopP
    rw [HL.out, if_neg h0]; exact h1
end Go.Proofs.YtjggkgdojhlhpaaGreat

/- The register program of a loop program: programOfLoop, ProgramOfLoop and the reference's l17Program, ProgramOfLoop. -/
namespace Go.Proofs.YtjggkgdojhlhpaaGreat
open Go.RowKit
set_option linter.all false
attribute [local go_sem ↓] Go.wp_at_zero Go.wp_at_succ

theorem commandProgram_any (d : Int) (x : R3) (A : Option Addr) (n cc : Nat) (p : List R4) (w : World) (hsrc : Src 4 w (.slice A n cc) n (rows R4.vs p)) (hwf : WfP p) (hn : n ≤ 100000) (hd0 : 0 ≤ d) (hd : d ≤ 1000) (hx : x.a = 0 ∨ x.a = 1 ∨ x.a = 2 ∨ x.a = 3 ∨ x.a = 4) :
    Calls Tryz.prog 65 #[.agg #[.int .i64 x.a, .int .i64 x.b, .int .i64 x.c], .slice A n cc, .int .i64 d] w fun e w' => ∃ v, e = .returned v ∧ w'.ownsRow w.heap.size 66 4 v (cmdP d x p).length (rows R4.vs (cmdP d x p)) ∧ Below w.heap.size w w' := by
  have HL : p.length = n := by have := hsrc.1; rw [rows_len R4.vs_len] at this; omega
  obtain ⟨a, b, c⟩ := x
  simp only at hx
  rcases hx with rfl | rfl | rfl | rfl | rfl
  · have h := command0_any d b c A n cc w
    rw [cmd0, moveP_len]; exact h
  · have h := command1_any d b c A n cc w
    rw [cmd1]; exact h
  · by_cases hbc : b = c
    · subst hbc
      rw [cmd2e]
      have e1 : (b == b) = true := by simp
      obtain ⟨w1, HW, hbox⟩ := box_mk w ⟨2, b, b⟩
      have hB1 := hbox.below
      rw [HW.out] at hB1
      clear hbox HW HL hsrc hwf
      go_enter Tryz.func65, Tryz.ntmps65
      go_wp2
      go_ret
      exact ⟨_, rfl, World.ownsRow_nil _ _ _ _, hB1⟩
    · have h := command2_any d b c A n cc w hbc
      rw [cmd2 _ _ _ _ hbc]
      have hl : (joinP (moveP b []) (copyP c b 23)).length = 6 := by rw [joinP_len, moveP_len, copyP_len]; rfl
      rw [hl]; exact h
  · have h := command3_any d b c A n cc p w hsrc hwf hn hd0 hd
    rw [cmd3]
    have hl : (joinP (copyP b (16 + d) 23) (timesP (16 + d) p)).length = 6 + n := by rw [joinP_len, copyP_len]; simp [timesP, HL]; omega
    rw [hl]; exact h
  · have h := command4_any d b c A n cc p w hsrc hwf hn
    rw [cmd4, loopP_len, HL]; exact h

/-- What a run of bodies has made: acc so far, the rest still to come. -/
def Made (w : World) (B g gp gd : Nat) (d : Int) (xs : List R3) (P : List R4) (k : Nat) (W : World) : Prop :=
  Below w.heap.size w W ∧ ∃ acc, Asm W B g acc ∧ progAt d acc (xs.drop k) = P ∧ W.heap[gp]? = some (.cells #[.pointer (some ⟨g, 0, none⟩)] 95 (0, 0)) ∧ W.heap[gd]? = some (.cells #[.int .i64 d] 2 (0, 0))
theorem Made.mono {w : World} {B g gp gd : Nat} {d : Int} {xs : List R3} {P : List R4} {k : Nat} {W W' : World} (h : Made w B g gp gd d xs P k W) (hb : Below W.heap.size W W') : Made w B g gp gd d xs P k W' := by
  obtain ⟨h1, acc, h2, h3, h4, h5⟩ := h
  exact ⟨h1.trans (hb.mono h1.size), acc, h2.below hb, h3, (hb.block _ (heap_lt h4)).trans h4, (hb.block _ (heap_lt h5)).trans h5⟩

set_option maxRecDepth 100000 in
set_option maxHeartbeats 2000000 in
theorem programOfLoop1_any (n : Nat) (ih : Hid (∀ m, m < n → ∀ (A : Option Addr) (c d : Nat) (dd : Int) (xs : List R3) (w : World), Args 3 w A m (rows R3.vs xs) → m ≤ 150 → m ≤ c → 0 ≤ dd → dd + m ≤ 200 → vl d xs = true →
      Calls Tryz.prog 48 #[.slice A m c, .int .i64 dd] w fun e w' => ∃ v, e = .returned v ∧ w'.ownsRow w.heap.size 66 4 v (progAt dd [] xs).length (rows R4.vs (progAt dd [] xs)) ∧ Below w.heap.size w w'))
    (x : R3) (m c g gp gd d : Nat) (dd : Int) (A : Option Addr) (ys : List R3) (acc : List R4) (w : World) (bs : Nat) (hm : m < n) (hm1 : m ≤ 150) (hmc : m ≤ c) (hd0 : 0 ≤ dd) (hd1 : dd + 1 + m ≤ 200) (ha : Args 3 w A m (rows R3.vs ys)) (hv : vl d ys = true)
    (hx : x.a = 0 ∨ x.a = 1 ∨ x.a = 2 ∨ x.a = 3 ∨ x.a = 4) (hacc : acc.length ≤ 1000)
    (hasm : Asm w bs g acc) (hgp : w.heap[gp]? = some (.cells #[.pointer (some ⟨g, 0, none⟩)] 95 (0, 0))) (hgd : w.heap[gd]? = some (.cells #[.int .i64 dd] 2 (0, 0))) (hlo : bs ≤ w.heap.size) (hgg : gp ≠ g) (hgg2 : gd ≠ g) :
    Calls Tryz.prog 64 #[.agg #[.int .i64 x.a, .int .i64 x.b, .int .i64 x.c], .slice A m c, .pointer (some ⟨gd, 0, none⟩), .pointer (some ⟨gp, 0, none⟩)] w fun e w' => e = .returned (.tuple #[]) ∧
      Asm w' bs g (joinP acc (cmdP dd x (progAt (dd + 1) [] ys))) ∧ Below bs w w' ∧ w'.heap[gp]? = some (.cells #[.pointer (some ⟨g, 0, none⟩)] 95 (0, 0)) ∧ w'.heap[gd]? = some (.cells #[.int .i64 dd] 2 (0, 0)) := by
  obtain ⟨w1, HW, hB1, k0, k1, k2⟩ : ∃ w1, Hid (w1 = w.alloc (.cells #[.int .i64 x.a, .int .i64 x.b, .int .i64 x.c] 86)) ∧ Below w.heap.size w w1 ∧ w1.cell? ⟨w.heap.size, 0, none⟩ = some (.int .i64 x.a) ∧ w1.cell? ⟨w.heap.size, 1, none⟩ = some (.int .i64 x.b) ∧ w1.cell? ⟨w.heap.size, 2, none⟩ = some (.int .i64 x.c) := ⟨_, rfl, laid_below _ _, by simp [go_sem], by simp [go_sem], by simp [go_sem]⟩
  have kd := cell_step (var_facts hgd).1 hB1
  obtain ⟨f1, f2, f3⟩ := progAt_facts _ ys (dd + 1) [] (Nat.le_refl _)
  have HLY : Hid (ys.length = m) := by have := ha.1; rw [rows_len R3.vs_len] at this; unfold Hid; omega
  rw [HLY.out] at f2
  simp only [List.length_nil, Nat.zero_add] at f2
  obtain ⟨B, hB⟩ : ∃ B, B = progAt (dd + 1) [] ys := ⟨_, rfl⟩
  rw [← hB] at f1 f2 f3
  have HB := Lib.hid hB; clear hB
  obtain ⟨nb, hnb⟩ : ∃ nb, nb = B.length := ⟨_, rfl⟩
  rw [← hnb] at f2
  have HNB := Lib.hid hnb; clear hnb
  have HWF := Lib.hid (f3 nil_wf); clear f3 f1
  have hcl := cmdP_len dd x B
  rw [← HNB.out] at hcl
  obtain ⟨np, hnp⟩ : ∃ np, np = (cmdP dd x B).length := ⟨_, rfl⟩
  rw [← hnp] at hcl
  have HNP := Lib.hid hnp; clear hnp
  have HWC := Lib.hid ((cmdP_wf dd x HWF.out).near (by rw [← HNP.out]; omega))
  have HIH : Hid (∀ W, Below w.heap.size w W → Calls Tryz.prog 48 #[.slice A m c, .int .i64 (dd + 1)] W fun e w' => ∃ v, e = .returned v ∧ w'.ownsRow W.heap.size 66 4 v nb (rows R4.vs B) ∧ Below W.heap.size W w') := by
    intro W hW
    rw [HNB.out, HB.out]
    exact ih.out m hm A c d (dd + 1) ys W (ha.below hW) hm1 hmc (by omega) hd1 hv
  have w9 : IntKind.i64.wrap (dd + 1) = dd + 1 := IntWalk.i64_in _ (by omega)
  clear ih
  go_enter Tryz.func64, Tryz.ntmps64
  go_wp2
  rw [← HW.out]
  go_region_held3 (fun w' => w'.cell? ⟨w.heap.size, 0, none⟩ = some (.int .i64 x.a) ∧ w'.cell? ⟨w.heap.size, 1, none⟩ = some (.int .i64 x.b) ∧ w'.cell? ⟨w.heap.size, 2, none⟩ = some (.int .i64 x.c) ∧ w'.cell? ⟨gd, 0, none⟩ = some (.int .i64 dd)) (first | go_keep | exact ⟨m0, m1, m2, md⟩ | exact ⟨n0, n1, n2, nd⟩)
    ((first
      | (go_at_call 48; refine (HIH.out _ (hB1.drew)).mono ?_; rintro e w2 ⟨v2, rfl, hown2, hb2⟩; obtain ⟨A2, c2, rfl⟩ := own_form hown2; have hs2 := Src.of_own hown2; have m0 := cell_step (by exact k0) hb2; have m1 := cell_step (by exact k1) hb2; have m2 := cell_step (by exact k2) hb2; have md := cell_step (by exact kd) hb2)
      | (go_at_call 65; refine (commandProgram_any dd x A2 nb c2 B _ hs2 HWF.out (by omega) hd0 (by omega) hx).mono ?_; rintro e w3 ⟨v3, rfl, hown3, hb3⟩; rw [← HNP.out] at hown3; obtain ⟨A3, c3, rfl⟩ := own_form hown3; have n0 := cell_step m0 hb3; have n1 := cell_step m1 hb3; have n2 := cell_step m2 hb3; have nd := cell_step md hb3)))
  all_goals
    have hB3 := below_step hB1 (below_step (below_drew_at hb2) hb3)
    have hasm3 := hasm.below hB3
    have HG3 := Lib.hid ((hB3.block _ (heap_lt hgp)).trans hgp)
    have HD3 := Lib.hid ((hB3.block _ (heap_lt hgd)).trans hgd)
    have hs3 := Src.of_own hown3
    clear k0 k1 k2 kd hB1 hb2 hb3 hown2 hown3 HW m0 m1 m2 md n0 n1 n2 nd w9 hs2
    obtain ⟨va, hca, howna⟩ := hasm3.list
    obtain ⟨la, hla⟩ : ∃ la, la = acc.length := ⟨_, rfl⟩
    rw [← hla] at howna hacc
    have HLA := Lib.hid hla; clear hla
    obtain ⟨Aa, ca, rfl⟩ := own_form howna
    clear howna
    have g3 := (var_facts HG3.out).1
    have w10 : IntKind.i64.wrap ((la : Int) + (np : Int)) = (la : Int) + (np : Int) := IntWalk.i64_in _ (by omega)
    go_wp2
    go_region_law ((first
        | (go_simp; go_at_call 33; refine (sizeOf_Instr_any _ _ _ _).mono ?_; rintro e w5 ⟨rfl, hw5⟩; subst hw5)
        | (go_simp; go_at_call 66; refine (asmPart_full _ _ ((la : Int) + (np : Int)) acc (cmdP dd x B) A3 np c3 _ (by exact hasm3) (by rw [← HLA.out]; omega) (by exact hs3) (by omega) HWC.out).mono ?_; rintro e w6 ⟨rfl, hasm6, hb6, hkeep6⟩)))
    all_goals
      go_wp2
      go_end0
      refine ⟨rfl, ?_, (hB3.mono hlo).trans (below_drew_b hb6), hkeep6 gp _ _ _ hgg (by decide) (by exact HG3.out), hkeep6 gd _ _ _ hgg2 (by decide) (by exact HD3.out)⟩
      unfold joinP
      rw [← HB.out, ← HNP.out, ← HLA.out]
      rw [← HLA.out] at hasm6
      exact hasm6

set_option maxRecDepth 100000 in
set_option maxHeartbeats 2000000 in
theorem programOfLoop_any (n : Nat) : ∀ (A : Option Addr) (c d : Nat) (dd : Int) (xs : List R3) (w : World), Args 3 w A n (rows R3.vs xs) → n ≤ 150 → n ≤ c → 0 ≤ dd → dd + n ≤ 200 → vl d xs = true →
      Calls Tryz.prog 48 #[.slice A n c, .int .i64 dd] w fun e w' => ∃ v, e = .returned v ∧ w'.ownsRow w.heap.size 66 4 v (progAt dd [] xs).length (rows R4.vs (progAt dd [] xs)) ∧ Below w.heap.size w w' := by
  induction n using Nat.strongRecOn with
  | ind n ih =>
  intro A c d dd xs w ha hn hc hd0 hd1 hv
  have IH := Lib.hid ih; clear ih
  have HV := Lib.hid hv; clear hv
  have HA := Lib.hid ha; clear ha
  have HL : Hid (xs.length = n) := by have := HA.out.1; rw [rows_len R3.vs_len] at this; unfold Hid; omega
  obtain ⟨w1, HW, hB1, hgd, hgp, hasm⟩ : ∃ w1, Hid (w1 = ((w.alloc (.cells #[.int .i64 dd] 2)).alloc (.cells #[.slice none 0 0] 97)).alloc (.cells #[.pointer (some ⟨w.heap.size + 1, 0, none⟩)] 95)) ∧ Below w.heap.size w w1 ∧ w1.heap[w.heap.size]? = some (.cells #[.int .i64 dd] 2 (0, 0)) ∧ w1.heap[w.heap.size + 1 + 1]? = some (.cells #[.pointer (some ⟨w.heap.size + 1, 0, none⟩)] 95 (0, 0)) ∧ Asm w1 (w.heap.size + 1) (w.heap.size + 1) [] := by
    refine ⟨_, rfl, (((Below.refl _ _).alloc (Nat.le_refl _) _).alloc (by simp) _).alloc (by simp; omega) _, ?_, ?_, Nat.le_refl _, .slice none 0 0, ?_, World.ownsRow_nil _ _ _ _⟩
    · rw [Below.heap_alloc _ _ _ (by simp; omega), Below.heap_alloc _ _ _ (by simp)]; exact heap_alloc_new _ _
    · have := heap_alloc_new ((w.alloc (.cells #[.int .i64 dd] 2)).alloc (.cells #[.slice none 0 0] 97)) (.cells #[.pointer (some ⟨w.heap.size + 1, 0, none⟩)] 95)
      simpa using this
    · rw [Below.heap_alloc _ _ _ (by simp)]
      have := heap_alloc_new (w.alloc (.cells #[.int .i64 dd] 2)) (.cells #[.slice none 0 0] 97)
      simpa using this
  have HM0 : Hid (Made w (w.heap.size + 1) (w.heap.size + 1) (w.heap.size + 1 + 1) w.heap.size dd xs (progAt dd [] xs) 0 w1) := ⟨hB1, [], hasm, by rw [List.drop_zero], hgp, hgd⟩
  obtain ⟨pf1, pf2, -⟩ := progAt_facts _ xs dd [] (Nat.le_refl _)
  rw [HL.out] at pf2
  simp only [List.length_nil, Nat.zero_add] at pf2
  have HF1 : Hid (∀ (k : Nat) (x : R3) (m : Nat) (A' : Option Addr) (c' : Nat) (W : World), xs[k]? = some x → bodyLen x = m → vl d (xs.drop k) = true → k + 1 + m ≤ n → m ≤ c' → Args 3 W A' m (rows R3.vs ((xs.drop (k + 1)).take m)) → Made w (w.heap.size + 1) (w.heap.size + 1) (w.heap.size + 1 + 1) w.heap.size dd xs (progAt dd [] xs) k W →
      Calls Tryz.prog 64 (#[.agg #[.int .i64 x.a, .int .i64 x.b, .int .i64 x.c], .slice A' m c'] ++ #[.pointer (some ⟨w.heap.size, 0, none⟩), .pointer (some ⟨w.heap.size + 1 + 1, 0, none⟩)]) W fun e w' => e = .returned (.tuple #[]) ∧ Made w (w.heap.size + 1) (w.heap.size + 1) (w.heap.size + 1 + 1) w.heap.size dd xs (progAt dd [] xs) (k + 1 + m) w') := by
    intro k x m A' c' W hx hm hvk hkm hmc ha' hmade
    obtain ⟨h1, acc, h2, h3, h4, h5⟩ := hmade
    have hlt := (progAt_facts _ (xs.drop k) dd acc (Nat.le_refl _)).1
    rw [h3] at hlt
    have hvk' := hvk
    rw [drop_at hx] at hvk'
    have hkind := vl_kind hvk'
    obtain ⟨_, _, hv3⟩ := vl_step hx hvk
    rw [hm] at hv3
    have hvy : vl (d - 1) ((xs.drop (k + 1)).take m) = true := by
      cases hl : isLp x with
      | true => exact (hv3 hl).1
      | false =>
        have : m = 0 := by rw [← hm, bodyLen_no hl]
        rw [this, List.take_zero, vl_nil]
    have hW := heap_lt h4
    refine (programOfLoop1_any n IH x m c' (w.heap.size + 1) (w.heap.size + 1 + 1) w.heap.size (d - 1) dd A' ((xs.drop (k + 1)).take m) acc W (w.heap.size + 1) (by omega) (by omega) hmc hd0 (by omega) ha' hvy (by omega) (by omega) h2 h4 h5 (by omega) (by omega) (by omega)).mono ?_
    rintro e w' ⟨rfl, g1, g2, g3, g4⟩
    refine ⟨rfl, h1.trans (g2.mono (by omega)), _, g1, ?_, g3, g4⟩
    rw [← h3, progAt_step dd acc hx, hm]
  have HI1 : Hid (∀ k W W', Made w (w.heap.size + 1) (w.heap.size + 1) (w.heap.size + 1 + 1) w.heap.size dd xs (progAt dd [] xs) k W → Below W.heap.size W W' → Made w (w.heap.size + 1) (w.heap.size + 1) (w.heap.size + 1 + 1) w.heap.size dd xs (progAt dd [] xs) k W') := fun k W W' h hb => h.mono hb
  have HA1 : Hid (∀ k W, Made w (w.heap.size + 1) (w.heap.size + 1) (w.heap.size + 1 + 1) w.heap.size dd xs (progAt dd [] xs) k W → Args 3 W A n (rows R3.vs xs)) := fun k W h => HA.out.below h.1
  have HE := Lib.hid (enters_of' (P := Tryz.prog) Tryz.func64 (by kernel_rfl) rfl)
  have HBD := Lib.hid (bodies_any 64 #[.pointer (some ⟨w.heap.size, 0, none⟩), .pointer (some ⟨w.heap.size + 1 + 1, 0, none⟩)] d (Made w (w.heap.size + 1) (w.heap.size + 1) (w.heap.size + 1 + 1) w.heap.size dd xs (progAt dd [] xs)) A n c xs w1 (HA.out.below hB1) (by omega) hc HV.out HE.out HI1 HA1 HF1 HM0.out)
  clear hgd hgp hasm HM0 HF1 HI1 HA1
  go_enter Tryz.func48, Tryz.ntmps48
  go_wp2_with fail
  rw [← HW.out]
  refine HBD.out.mono ?_
  rintro e w2 ⟨rfl, hmade⟩
  obtain ⟨h1, acc, h2, h3, h4, h5⟩ := hmade
  rw [List.drop_of_length_le (by have := HL.out; omega), progAt_nil] at h3
  subst h3
  have p4 := (var_facts h4).1
  obtain ⟨v, hc2, hown⟩ := h2.list
  clear h2 h4 h5 HBD
  go_wp2
  go_ret
  exact ⟨_, rfl, own_base hown (by omega), h1⟩
end Go.Proofs.YtjggkgdojhlhpaaGreat
