/- The reference on register programs: l07Shift, l07Fits. -/
import Derived.Test.YteocnkiagifmfaaAsm
namespace Go.Proofs.Yteocnkiagifmfaa
open Go.RowKit
set_option linter.all false

/-- Each instruction is an increment or a decrement. -/
def Kinds (ps : List R4) : Prop := ∀ x ∈ ps, x.a = 0 ∨ x.a = 1
theorem mid_at {α : Type} {xs ys : List α} {k : Nat} {y : α} {l : List α} (h : xs.length = k) : (xs ++ y :: l)[k]? = some y := by
  subst h; simp
theorem mid_set {α : Type} {xs : List α} {k : Nat} {y z : α} {l : List α} (h : xs.length = k) : (xs ++ y :: l).set k z = xs ++ z :: l := by
  subst h; simp

set_option maxRecDepth 100000 in
set_option maxHeartbeats 2000000 in
theorem l07Shift_any (by_ end_ : Int) (A : Option Addr) (n c : Nat) (xs : List R4) (w : World) (hsrc : Src 4 w (.slice A n c) n (rows R4.vs xs)) (hn : n ≤ 1000000) (hnear : Near xs) (hkind : Kinds xs) (hby : 0 ≤ by_) (hby1 : by_ ≤ 1048576) :
    Calls Try.prog 211 #[.slice A n c, .int .i64 by_, .int .i64 end_] w fun e w' => ∃ v, e = .returned v ∧ w'.ownsRow w.heap.size 185 4 v n (rows R4.vs (xs.map (redirF (tgt n end_ by_)))) ∧ Below w.heap.size w w' := by
  have HL : Hid (xs.length = n) := by have := hsrc.1; rw [rows_len R4.vs_len] at this; unfold Hid; omega
  have HNR := Lib.hid hnear; clear hnear
  have HKD := Lib.hid hkind; clear hkind
  have ha := hsrc.args
  have hown0 : (w.alloc (.cells #[] 185)).ownsRow w.heap.size 185 4 (.slice (some ⟨w.heap.size, 0, none⟩) 0 0) 0 [] := own_empty w 185 4
  have hB0 := laid_below w (.cells #[] 185)
  have hsrc1 := hsrc.below hB0
  have HO := Lib.hid (one_rows_Instr xs)
  clear hsrc
  go_enter Try.func211, Try.ntmps211
  go_wp2_with (at_builtin; refine wpList_appx rfl _ _ _ rfl Try.underlying98 infoInstr rfl (by omega) w.heap.size hown0 hB0.size rfl hsrc1 rfl HO.out (by unfold maxLen; omega) (by omega) ?_; intro v2 w2 hown2 hg2 hnil2; have hb1 := grown_below hB0 hown0 (Nat.le_refl _) hg2; clear hnil2 hown0 hB0 hsrc1 hg2; obtain ⟨A2, c2, rfl⟩ := own_form hown2; simp only [Nat.zero_add, List.nil_append] at hown2 ⊢)
  by_cases hn0 : n = 0
  · subst hn0
    have hx : xs = [] := List.eq_nil_of_length_eq_zero HL.out
    subst hx
    go_wp2
    refine wp_loop_rounds 1 ?_
    rw [rounds_succ]
    go_wp2
    go_ret
    exact ⟨_, rfl, hown2, hb1⟩
  obtain ⟨g2, rfl, hg2, hg2l⟩ := own_addr hown2 (by omega)
  go_wp2
  go_loopw [9] (fun i wr => ∃ k : Nat, k ≤ n ∧ i = .int .i64 k ∧ Below w.heap.size w wr ∧ wr.ownsRow w.heap.size 185 4 (.slice (some ⟨g2, 0, none⟩) n c2) n (rows R4.vs ((xs.take k).map (redirF (tgt n end_ by_)) ++ xs.drop k))) (fun i _ => n - (intOf i).toNat)
  case atStart => exact ⟨0, Nat.zero_le _, rfl, hb1, by simpa using hown2⟩
  case round =>
    obtain ⟨k, hk, rfl, hB, hown⟩ := hrel
    by_cases hlt : k < n
    · obtain ⟨x, HX⟩ := hget HL hlt
      obtain ⟨b, off, rfl, hs⟩ := ha.sl hlt
      have hbl := hs.1
      obtain ⟨p0, p1, p2, p3⟩ := (hs.below' hB).rec4 HX.out
      obtain ⟨q0, q1, q2, q3⟩ := (sl_of_own hown).rec4 (redir_at HX.out)
      simp only [Nat.zero_add] at q0 q1 q2 q3
      have z2 := hown.frozenAt (k * 4 + 2)
      obtain ⟨⟨n1, n2⟩, n3, n4⟩ := HNR.out x (List.mem_of_getElem? HX.out)
      have hkd := HKD.out x (List.mem_of_getElem? HX.out)
      have hne : b ≠ g2 := by omega
      have HTK : Hid (((xs.take k).map (redirF (tgt n end_ by_))).length = k) := by have := HL.out; unfold Hid; rw [List.length_map, List.length_take]; omega
      by_cases h1 : x.c = (n : Int)
      · have e1 : (x.c == (n : Int)) = true := by simpa using h1
        have HT1 : Hid (tgt n end_ by_ x.c = end_) := by unfold Hid; rw [tgt, if_pos h1]
        clear h1
        obtain ⟨hown3, hgr3⟩ := hown.stored (k * 4 + 2) (.int .i64 end_)
        rw [rows_set R4.vs_len (⟨x.a, x.b, end_, x.d⟩ : R4) (redir_at HX.out) (by omega) rfl, redir_set HX.out] at hown3
        have hB3 := hB.grown hgr3 hB.size (fun j hj => by simp at hj; omega)
        have d0 := cell_set_far (p := ⟨g2, k * 4 + 2, none⟩) (u := .int .i64 end_) p0 hne
        have d3 := cell_set_far (p := ⟨g2, k * 4 + 2, none⟩) (u := .int .i64 end_) p3 hne
        have r3 := (sl_of_own hown3).rec4 (mid_at (ys := xs) HTK.out) |>.2.2.2
        simp only [Nat.zero_add] at r3
        have z3 := hown3.frozenAt (k * 4 + 3)
        clear hown hgr3
        rcases hkd with h0 | h0
        · have e0 : (x.a == 0) = true := by simpa using h0
          have HR : Hid ((⟨x.a, x.b, end_, x.d⟩ : R4) = redirF (tgt n end_ by_) x) := by unfold Hid; rw [redirF, if_neg (by omega), HT1.out]
          clear h0
          rw [HR.out, redir_next HX.out] at hown3
          clear p1 p3 q0 q1 q3 d3 r3 z3
          go_wp2
          go_roundw
          case rel => exact ⟨k + 1, by omega, by go_num, hB3, hown3⟩
          case measure => simp [intOf]; omega
        · have e0 : (x.a == 0) = false := by rw [h0]; rfl
          have H0 := Lib.hid h0; clear h0
          by_cases h2 : x.d = (n : Int)
          · have e2 : (x.d == (n : Int)) = true := by simpa using h2
            have HR : Hid ((⟨x.a, x.b, end_, end_⟩ : R4) = redirF (tgt n end_ by_) x) := by unfold Hid; rw [redirF, if_pos H0.out, HT1.out, tgt, if_pos h2]
            clear h2
            obtain ⟨hown4, hgr4⟩ := hown3.stored (k * 4 + 3) (.int .i64 end_)
            rw [rows_set R4.vs_len (⟨x.a, x.b, end_, end_⟩ : R4) (mid_at (ys := xs) HTK.out) (by omega) rfl, mid_set HTK.out, HR.out, redir_next HX.out] at hown4
            have hB4 := hB3.grown hgr4 hB3.size (fun j hj => by simp at hj; omega)
            clear hown3 hgr4 hB3 p1 p3 q0 q1 q3
            go_wp2
            go_roundw
            case rel => exact ⟨k + 1, by omega, by go_num, hB4, hown4⟩
            case measure => simp [intOf]; omega
          · have e2 : (x.d == (n : Int)) = false := by simpa using h2
            have HR : Hid ((⟨x.a, x.b, end_, (x.d + by_)⟩ : R4) = redirF (tgt n end_ by_) x) := by unfold Hid; rw [redirF, if_pos H0.out, HT1.out, tgt, if_neg h2]
            clear h2
            obtain ⟨hown4, hgr4⟩ := hown3.stored (k * 4 + 3) (.int .i64 (x.d + by_))
            rw [rows_set R4.vs_len (⟨x.a, x.b, end_, (x.d + by_)⟩ : R4) (mid_at (ys := xs) HTK.out) (by omega) rfl, mid_set HTK.out, HR.out, redir_next HX.out] at hown4
            have hB4 := hB3.grown hgr4 hB3.size (fun j hj => by simp at hj; omega)
            clear hown3 hgr4 hB3 p1 p3 q0 q1 q3
            go_wp2
            go_roundw
            case rel => exact ⟨k + 1, by omega, by go_num, hB4, hown4⟩
            case measure => simp [intOf]; omega
      · have e1 : (x.c == (n : Int)) = false := by simpa using h1
        have HT1 : Hid (tgt n end_ by_ x.c = (x.c + by_)) := by unfold Hid; rw [tgt, if_neg h1]
        clear h1
        obtain ⟨hown3, hgr3⟩ := hown.stored (k * 4 + 2) (.int .i64 (x.c + by_))
        rw [rows_set R4.vs_len (⟨x.a, x.b, (x.c + by_), x.d⟩ : R4) (redir_at HX.out) (by omega) rfl, redir_set HX.out] at hown3
        have hB3 := hB.grown hgr3 hB.size (fun j hj => by simp at hj; omega)
        have d0 := cell_set_far (p := ⟨g2, k * 4 + 2, none⟩) (u := .int .i64 (x.c + by_)) p0 hne
        have d3 := cell_set_far (p := ⟨g2, k * 4 + 2, none⟩) (u := .int .i64 (x.c + by_)) p3 hne
        have r3 := (sl_of_own hown3).rec4 (mid_at (ys := xs) HTK.out) |>.2.2.2
        simp only [Nat.zero_add] at r3
        have z3 := hown3.frozenAt (k * 4 + 3)
        clear hown hgr3
        rcases hkd with h0 | h0
        · have e0 : (x.a == 0) = true := by simpa using h0
          have HR : Hid ((⟨x.a, x.b, (x.c + by_), x.d⟩ : R4) = redirF (tgt n end_ by_) x) := by unfold Hid; rw [redirF, if_neg (by omega), HT1.out]
          clear h0
          rw [HR.out, redir_next HX.out] at hown3
          clear p1 p3 q0 q1 q3 d3 r3 z3
          go_wp2
          go_roundw
          case rel => exact ⟨k + 1, by omega, by go_num, hB3, hown3⟩
          case measure => simp [intOf]; omega
        · have e0 : (x.a == 0) = false := by rw [h0]; rfl
          have H0 := Lib.hid h0; clear h0
          by_cases h2 : x.d = (n : Int)
          · have e2 : (x.d == (n : Int)) = true := by simpa using h2
            have HR : Hid ((⟨x.a, x.b, (x.c + by_), end_⟩ : R4) = redirF (tgt n end_ by_) x) := by unfold Hid; rw [redirF, if_pos H0.out, HT1.out, tgt, if_pos h2]
            clear h2
            obtain ⟨hown4, hgr4⟩ := hown3.stored (k * 4 + 3) (.int .i64 end_)
            rw [rows_set R4.vs_len (⟨x.a, x.b, (x.c + by_), end_⟩ : R4) (mid_at (ys := xs) HTK.out) (by omega) rfl, mid_set HTK.out, HR.out, redir_next HX.out] at hown4
            have hB4 := hB3.grown hgr4 hB3.size (fun j hj => by simp at hj; omega)
            clear hown3 hgr4 hB3 p1 p3 q0 q1 q3
            go_wp2
            go_roundw
            case rel => exact ⟨k + 1, by omega, by go_num, hB4, hown4⟩
            case measure => simp [intOf]; omega
          · have e2 : (x.d == (n : Int)) = false := by simpa using h2
            have HR : Hid ((⟨x.a, x.b, (x.c + by_), (x.d + by_)⟩ : R4) = redirF (tgt n end_ by_) x) := by unfold Hid; rw [redirF, if_pos H0.out, HT1.out, tgt, if_neg h2]
            clear h2
            obtain ⟨hown4, hgr4⟩ := hown3.stored (k * 4 + 3) (.int .i64 (x.d + by_))
            rw [rows_set R4.vs_len (⟨x.a, x.b, (x.c + by_), (x.d + by_)⟩ : R4) (mid_at (ys := xs) HTK.out) (by omega) rfl, mid_set HTK.out, HR.out, redir_next HX.out] at hown4
            have hB4 := hB3.grown hgr4 hB3.size (fun j hj => by simp at hj; omega)
            clear hown3 hgr4 hB3 p1 p3 q0 q1 q3
            go_wp2
            go_roundw
            case rel => exact ⟨k + 1, by omega, by go_num, hB4, hown4⟩
            case measure => simp [intOf]; omega
    · obtain rfl : n = k := by omega
      rw [List.take_of_length_le (by have := HL.out; omega), List.drop_of_length_le (by have := HL.out; omega), List.append_nil] at hown
      go_wp2
      go_ret
      exact ⟨_, rfl, hown, hB⟩

theorem l07Fits_any (B n c : Nat) (A : Option Addr) (xs : List R4) (w : World) (hown : w.ownsRow B 185 4 (.slice A n c) n (rows R4.vs xs)) (hl : xs.length = n) (hn : n ≤ 4194304) :
    Calls Try.prog 141 #[.slice A n c] w fun e w' => (∃ v, e = .returned (.tuple #[v, .int .i64 (fits xs).2]) ∧ w.ownsRow B 185 4 v (fits xs).1.length (rows R4.vs (fits xs).1)) ∧ w = w' := by
  have HN := Lib.hid hl; clear hl
  by_cases h4 : 400 < n
  · have hi : (400 : Int) < (n : Int) := by omega
    have HT : Hid (fits xs = ([], 5)) := by unfold Hid fits; rw [HN.out, if_pos h4, if_pos h4]
    rw [HT.out]
    go_enter Try.func141, Try.ntmps141
    go_wp2
    go_ret2
    exact ⟨⟨_, rfl, World.ownsRow_nil _ _ _ _⟩, rfl⟩
  · have hi : ¬ (400 : Int) < (n : Int) := by omega
    have HT : Hid (fits xs = (xs, 0)) := by unfold Hid fits; rw [HN.out, if_neg h4, if_neg h4]
    rw [HT.out]
    go_enter Try.func141, Try.ntmps141
    go_wp2
    go_ret2
    exact ⟨⟨_, rfl, by show World.ownsRow _ _ _ _ _ xs.length _; rw [HN.out]; exact hown⟩, rfl⟩

end Go.Proofs.Yteocnkiagifmfaa
