/- Two rows of one call that lie apart: a configuration as a result; the laws' marks on it. -/
import Derived.Test.YtjakgeblmkdbpaaOneConfig
import Derived.Test.YtjakgeblmkdbpaaCfgImpl
namespace Go.Proofs.Ytjakgeblmkdbpaa
open Go.RowKit
set_option linter.all false

structure Two (lo hi : Nat) (v1 : Value) (n1 : Nat) (y1 : List Value) (v2 : Value) (n2 : Nat) (y2 : List Value) (W : World) : Prop where
  o1 : W.ownsRow lo 2 1 v1 n1 y1
  o2 : W.ownsRow lo 2 1 v2 n2 y2
  t1 : ∀ k, v1.ownBlock = some k → k < hi
  t2 : ∀ k, v2.ownBlock = some k → k < hi
  ap : v1.ownBlock = none ∨ v1.ownBlock ≠ v2.ownBlock
section
variable {lo hi : Nat} {v1 : Value} {n1 : Nat} {y1 : List Value} {v2 : Value} {n2 : Nat} {y2 : List Value} {w w' : World}
theorem Two.dep (lo hi : Nat) (v1 : Value) (n1 : Nat) (y1 : List Value) (v2 : Value) (n2 : Nat) (y2 : List Value) : Dep lo hi (Two lo hi v1 n1 y1 v2 n2 y2) := by
  intro a b h hk
  exact ⟨own_dep (w := a) (fun k h2 => ⟨(h.o1.lt k h2).1, h.t1 k h2⟩) a b h.o1 hk, own_dep (w := a) (fun k h2 => ⟨(h.o2.lt k h2).1, h.t2 k h2⟩) a b h.o2 hk, h.t1, h.t2, h.ap⟩
theorem Two.held (h : Two lo hi v1 n1 y1 v2 n2 y2 w) (hh : hi ≤ w.heap.size) : Held lo hi (Two lo hi v1 n1 y1 v2 n2 y2) w := ⟨hh, h, Two.dep _ _ _ _ _ _ _ _⟩
theorem Two.turn {z1 z2 : List Value} (h : Held lo hi (Two lo hi v1 n1 y1 v2 n2 y2) w) (hn : Two lo hi v1 n1 z1 v2 n2 z2 w') (ht : Touch lo hi w w') : Held lo hi (Two lo hi v1 n1 z1 v2 n2 z2) w' :=
  ⟨Nat.le_trans h.le ht.size, hn, Two.dep _ _ _ _ _ _ _ _⟩
theorem Two.pa (h : Two lo hi v1 n1 y1 v2 n2 y2 w) : v2.ownBlock = none ∨ v2.ownBlock ≠ v1.ownBlock := by
  rcases h.ap with h1 | h1
  · rw [h1]
    cases h2 : v2.ownBlock with
    | none => exact .inl rfl
    | some k => exact .inr (by simp)
  · exact .inr h1.symm
theorem Two.of_res {B : Nat} {R : DConfig × Int} {e : Ending} {W : World} (h : CfgRes B R e W) : ∃ v1 v2, e = .returned (.tuple #[.agg #[.int .i64 R.1.f0, v1, v2], .int .i64 R.2]) ∧ Two B W.heap.size v1 R.1.f1.length (R.1.f1.map (Value.int .i64)) v2 R.1.f2.length (R.1.f2.map (Value.int .i64)) W := by
  obtain ⟨v1, v2, h1, h2, h3, h4⟩ := h
  exact ⟨v1, v2, h1, h2, h3, fun k hk => (h2.lt k hk).2, fun k hk => (h3.lt k hk).2, h4⟩
end

set_option maxRecDepth 100000 in
set_option maxHeartbeats 1000000 in
theorem markConfigT_any (f0 : Int) (lo hi : Nat) (A1 : Option Addr) (n1 c1 : Nat) (y1 : List Value) (A2 : Option Addr) (n2 c2 : Nat) (y2 : List Value) (k : Int) (w : World) (h : Held lo hi (Two lo hi (.slice A1 n1 c1) n1 y1 (.slice A2 n2 c2) n2 y2) w) (hlh : lo ≤ hi) (hkb0 : 0 ≤ k) (hkb1 : k ≤ 1073741824) (s1 : n1 ≤ 4194304) (s2 : n2 ≤ 4194304) :
    Calls Try.prog 30 #[.agg #[.int .i64 f0, .slice A1 n1 c1, .slice A2 n2 c2], .int .i64 k] w fun z w' => z = .returned (.int .i64 (k + (n1 : Int) + (n2 : Int))) ∧ Held lo hi (Two lo hi (.slice A1 n1 c1) n1 (marks mkInt64S k n1) (.slice A2 n2 c2) n2 (marks mkInt64S (k + (n1 : Int)) n2)) w' ∧ Touch lo hi w w' := by
  obtain ⟨w0, HW0, B0, hx0⟩ := al1 w (.cells #[.int .i64 f0, .slice A1 n1 c1, .slice A2 n2 c2] 36)
  have T0 : Touch lo hi w w0 := Touch.of_below B0
  have H0 := h.below B0; have le1 := h.le
  go_enter Try.func30, Try.ntmps30
  have lx1 : w0.cell? ⟨w.heap.size, 1, none⟩ = some (.slice A1 n1 c1) := by rw [cell_of_heap hx0]; rfl
  go_wp2_with fail
  rw [← HW0.out]
  refine (markInt64S_any _ _ n1 k _ _ H0.is.o1 (by omega) (by omega) (by omega)).mono ?_
  rintro z w1 ⟨rfl, o9, g9⟩
  have t9 : Touch lo hi w0 w1 := Touch.of_grown g9 fun q hq => ⟨(H0.is.o1.lt q hq).1, H0.is.t1 q hq⟩
  have o2a := H0.is.o2.kept g9 H0.is.pa
  have h1 : Two lo hi (.slice A1 n1 c1) n1 (marks mkInt64S k n1) (.slice A2 n2 c2) n2 y2 w1 := ⟨o9, o2a, H0.is.t1, H0.is.t2, H0.is.ap⟩
  have hx1 := (t9.block _ (heap_lt hx0) (.inr (by omega))).trans hx0
  have T1 := T0.trans t9
  clear t9 lx1 o9 g9 o2a
  have lx2 : w1.cell? ⟨w.heap.size, 2, none⟩ = some (.slice A2 n2 c2) := by rw [cell_of_heap hx1]; rfl
  go_wp2_with fail
  refine (markInt64S_any _ _ n2 (k + (n1 : Int)) _ _ h1.o2 (by omega) (by omega) (by omega)).mono ?_
  rintro z w2 ⟨rfl, o9, g9⟩
  have t9 : Touch lo hi w1 w2 := Touch.of_grown g9 fun q hq => ⟨(h1.o2.lt q hq).1, h1.t2 q hq⟩
  have o1a := h1.o1.kept g9 h1.ap
  have h2 : Two lo hi (.slice A1 n1 c1) n1 (marks mkInt64S k n1) (.slice A2 n2 c2) n2 (marks mkInt64S (k + (n1 : Int)) n2) w2 := ⟨o1a, o9, h1.t1, h1.t2, h1.ap⟩
  have T2 := T1.trans t9
  have H2 := Two.turn h h2 T2
  clear t9 lx2 o9 g9 o1a
  go_wp2_with fail
  go_ret
  exact ⟨rfl, H2, T2⟩

theorem configW_len (S Q : Int) (rs : List R3) (w : List Int) : (configOfWord S Q rs w).1.f1.length ≤ 200 ∧ (configOfWord S Q rs w).1.f2.length ≤ 200 := by
  have hz : ∀ c : Int, ((⟨0, [], []⟩, c) : DConfig × Int).1.f1.length ≤ 200 ∧ ((⟨0, [], []⟩, c) : DConfig × Int).1.f2.length ≤ 200 := fun c => ⟨by simp, by simp⟩
  unfold configOfWord
  split
  · split
    · unfold cfgW
      split
      · exact hz _
      · rename_i q l r _
        split
        · rename_i h
          unfold roomC at h
          rw [Bool.and_eq_true] at h
          exact ⟨of_decide_eq_true h.1, of_decide_eq_true h.2⟩
        · exact hz _
    · exact hz _
  · exact hz _
theorem bndConfigOfWord0_1 (S Q : Int) (rs : List R3) (w : List Int) (h0 : rs.length ≤ 1048576) (h1 : w.length ≤ 1048576) : (configOfWord S Q rs w).1.f1.length ≤ 1048576 := by have := configW_len S Q rs w; omega
theorem bndConfigOfWord0_2 (S Q : Int) (rs : List R3) (w : List Int) (h0 : rs.length ≤ 1048576) (h1 : w.length ≤ 1048576) : (configOfWord S Q rs w).1.f2.length ≤ 1048576 := by have := configW_len S Q rs w; omega
end Go.Proofs.Ytjakgeblmkdbpaa
