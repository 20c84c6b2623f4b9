/- The laws' markText and markStringS: that they end, and what they write over. -/
import Derived.Test.YteocnkiagifmfaaHelpStr
import Derived.Test.YteocnkiagifmfaaApp
import Derived.Lib.UnsafeStr
import Derived.Laws.BytesString
namespace Go.Proofs.Yteocnkiagifmfaa
open Go.RowKit
set_option linter.all false

theorem fold_push2 (l : List UInt8) : ∀ s : ByteArray, (l.map fun b : UInt8 => (b.toNat : Int)).foldl (fun r n => r.push (UInt8.ofNat n.toNat)) s = ⟨(s.data.toList ++ l).toArray⟩ := by
  induction l with
  | nil => intro s; simp
  | cons b l ih =>
    intro s
    rw [List.map_cons, List.foldl_cons, ih]
    congr 1
    simp [ByteArray.push]
theorem run_str2 {w : World} {base : Nat} {v : Value} {l : List UInt8} (h : w.ownsRow base 5 1 v l.length (Lib.byteCells l)) : (convert 188 9 v).run Try.prog w = .ok (.string ⟨l.toArray⟩) w := by
  rcases h.2 with ⟨rfl, h0⟩ | ⟨g, cap, cur, rfl, _⟩
  · rw [run_convert_bytes_string w _ _ 5 _ _ _ Try.underlying188 Try.underlying5 Try.underlying9]
    have : l = [] := List.eq_nil_of_length_eq_zero h0
    subst this
    rfl
  · rw [run_convert_bytes_string w _ _ 5 _ _ _ Try.underlying188 Try.underlying5 Try.underlying9]
    have hf := run_firstCells_some (P := Try.prog) w 1 l.length ⟨g, 0, none⟩ l.length cap (Lib.byteCells l) (by simp [Lib.byteCells]) (h.cells (g := g) rfl)
    have e : Lib.byteCells l = (l.map fun b : UInt8 => (b.toNat : Int)).map (Value.int .u8) := by simp [Lib.byteCells]
    rw [e] at hf
    have hl : (loadCells ⟨g, 0, none⟩ l.length).run Try.prog w = .ok ((l.map fun b : UInt8 => (b.toNat : Int)).map (Value.int .u8)).toArray w := by simpa [Builtin.firstCells] using hf
    rw [run_bytesToString w _ _ _ _ hl, fold_push2]
    simp

/-- One digit, as a string. -/
theorem digit_str (wr : World) (k : Nat) : ∃ s1 : ByteArray, s1.size = 1 ∧ (convert 188 9 (.slice (some ⟨wr.heap.size, 0, none⟩) 1 1)).run Try.prog (wr.alloc (.cells #[.int .u8 (48 + (k : Int) % 10)] 5)) = .ok (.string s1) (wr.alloc (.cells #[.int .u8 (48 + (k : Int) % 10)] 5)) := by
  have e : (48 + (k : Int) % 10) = (((UInt8.ofNat (48 + k % 10)).toNat : Nat) : Int) := by
    rw [UInt8.toNat_ofNat', Nat.mod_eq_of_lt (by omega)]; omega
  have hO : (wr.alloc (.cells #[.int .u8 (48 + (k : Int) % 10)] 5)).ownsRow wr.heap.size 5 1 (.slice (some ⟨wr.heap.size, 0, none⟩) 1 1) [UInt8.ofNat (48 + k % 10)].length (Lib.byteCells [UInt8.ofNat (48 + k % 10)]) :=
    ⟨rfl, .inr ⟨wr.heap.size, 1, #[.int .u8 (48 + (k : Int) % 10)], rfl, Nat.le_refl _, heap_alloc_new _ _, Nat.le_refl _, by simp [maxLen], rfl, by show [Value.int .u8 (48 + (k : Int) % 10)] = [Value.int .u8 (((UInt8.ofNat (48 + k % 10)).toNat : Nat) : Int)]; rw [e]⟩⟩
  exact ⟨_, rfl, run_str2 hO⟩

set_option maxRecDepth 100000 in
theorem markText_any (k0 : Nat) (w : World) (hk : k0 ≤ 1099511627776) :
    Calls Try.prog 83 #[.int .i64 k0] w fun e w' => ∃ s, e = .returned (.string s) ∧ Below w.heap.size w w' := by
  rcases Nat.eq_zero_or_pos k0 with h0 | h0
  · subst h0
    go_enter Try.func83, Try.ntmps83
    go_wp2_with fail
    go_ret
    exact ⟨_, rfl, Below.refl _ _⟩
  · go_enter Try.func83, Try.ntmps83
    go_wp2_with fail
    go_loopw [0, 3] (fun kv sv wr => ∃ (k : Nat) (s : ByteArray), kv = .int .i64 k ∧ sv = .string s ∧ k + s.size ≤ 1099511627776 ∧ Below w.heap.size w wr) (fun kv _ _ => (intOf kv).toNat)
    case atStart => exact ⟨k0, _, rfl, rfl, by show _ + 0 ≤ _; omega, Below.refl _ _⟩
    case round =>
      obtain ⟨k, s, rfl, rfl, hks, hB⟩ := hrel
      rcases Nat.eq_zero_or_pos k with h1 | h1
      · subst h1
        go_wp2_with fail
        go_ret
        exact ⟨_, rfl, hB⟩
      · obtain ⟨s1, hs1, hcv⟩ := digit_str wr k
        have HS1 := Lib.hid hs1
        have hss : s1.size ≤ 1 := by omega
        clear hs1
        have hB2 : Below w.heap.size w (wr.alloc (.cells #[.int .u8 (48 + (k : Int) % 10)] 5)) := below_step hB (laid_below _ _)
        go_wp2_with fail
        go_roundw
        case rel => exact ⟨k / 10, _, by go_num, rfl, by rw [ByteArray.size_append, HS1.out]; omega, hB2⟩
        case measure => simp [intOf]; omega

set_option maxHeartbeats 400000 in
set_option maxRecDepth 100000 in
theorem markStringS_weak (base : Nat) (v : Value) (n : Nat) (k0 : Nat) (xs : List Value) (w : World) (ho : w.ownsRow base 9 1 v n xs) (hk1 : k0 ≤ 1073741824) (hn : n ≤ 4194304) :
    Calls Try.prog 19 #[v, .int .i64 k0] w fun e w' => e = .returned (.int .i64 ((k0 + n : Nat) : Int)) ∧ (∃ ys, w'.ownsRow base 9 1 v n ys) ∧ w.grownBy w' v.ownBlock := by
  have HL : Hid (xs.length = n) := by have := ho.1; unfold Hid; omega
  rcases ho.2 with ⟨rfl, rfl⟩ | ⟨g, cap, cur, rfl, hbg, hh, hnc, hcm, hcs, htk⟩
  · go_enter Try.func19, Try.ntmps19
    go_wp2
    refine wp_loop_rounds 1 ?_
    rw [rounds_succ]
    go_wp2
    go_ret
    exact ⟨by simp, ⟨_, ho⟩, World.grownBy.refl _ _⟩
  · clear hh hcs htk
    go_enter Try.func19, Try.ntmps19
    go_wp2
    go_loopw [1, 5] (fun kk i wr => ∃ (k : Nat) (ys : List Value), k ≤ n ∧ i = .int .i64 k ∧ kk = .int .i64 ((k0 + k : Nat) : Int) ∧ wr.ownsRow base 9 1 (.slice (some ⟨g, 0, none⟩) n cap) n ys ∧ w.grownBy wr (some g)) (fun _ i _ => n - (intOf i).toNat)
    case atStart => exact ⟨0, xs, Nat.zero_le _, rfl, rfl, ho, World.grownBy.refl _ _⟩
    case round =>
      obtain ⟨k, ys, hk, rfl, rfl, hown, hgr⟩ := hrel
      clear ho
      by_cases hlt : k < n
      · go_wp2_with fail
        refine (markText_any (k0 + k) wr (by omega)).mono ?_
        rintro e w1 ⟨s, rfl, hB1⟩
        have hown1 := own_below' hown hB1
        have hgr1 := hgr.trans (grown_of_below hB1 _)
        have hyl : ys.length = n := by have := hown1.1; omega
        have hc : w1.cell? ⟨g, k, none⟩ = some (ys[k]'(by omega)) := by
          rw [hown1.cellAt k (by omega)]; simp
        have hf := hown1.frozenAt k
        have HS := Lib.hid (hown1.stored k (.string s))
        generalize (ys[k]'_) = x at hc
        clear hown hown1 hgr hB1 hyl
        go_wp2_with fail
        go_roundw
        case rel => exact ⟨k + 1, _, by omega, by go_num, by go_num, HS.out.1, hgr1.trans HS.out.2⟩
        case measure => simp [intOf]; omega
      · go_wp2
        go_ret
        obtain rfl : k = n := by omega
        exact ⟨rfl, ⟨ys, hown⟩, hgr⟩

theorem markStringS_some (base : Nat) (v : Value) (n : Nat) (k0 : Int) (xs : List Value) (w : World) (ho : w.ownsRow base 9 1 v n xs) (hk0 : 0 ≤ k0) (hk1 : k0 ≤ 1073741824) (hn : n ≤ 4194304) :
    Calls Try.prog 19 #[v, .int .i64 k0] w fun e w' => e = .returned (.int .i64 (k0 + n)) ∧ (∃ ys, w'.ownsRow base 9 1 v n ys) ∧ w.grownBy w' v.ownBlock := by
  obtain ⟨m, rfl⟩ := Int.eq_ofNat_of_zero_le hk0
  have h := markStringS_weak base v n m xs w ho (by omega) hn
  rw [Int.natCast_add] at h
  exact h
end Go.Proofs.Yteocnkiagifmfaa
