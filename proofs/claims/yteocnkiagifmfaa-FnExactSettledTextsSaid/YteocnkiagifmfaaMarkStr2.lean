/- The laws' markText, markStringS and heldStringS, with the text that is written. Conditions: numbers below 2^30. -/
import Derived.Test.YteocnkiagifmfaaMarkStr
import Derived.Test.YteocnkiagifmfaaSeq
namespace Go.Proofs.Yteocnkiagifmfaa
open Go.RowKit
set_option linter.all false

/-- The digits of a number ahead of some bytes. -/
def mDigits : Nat → Nat → List UInt8 → List UInt8
  | 0, _, acc => acc
  | f + 1, k, acc => if k = 0 then acc else mDigits f (k / 10) (UInt8.ofNat (48 + k % 10) :: acc)
theorem mDigits_more : ∀ (f g k : Nat) (acc : List UInt8), k ≤ f → k ≤ g → mDigits f k acc = mDigits g k acc := by
  intro f
  induction f with
  | zero =>
    intro g k acc hf hg
    obtain rfl : k = 0 := by omega
    cases g with
    | zero => rfl
    | succ g => unfold mDigits; rw [if_pos rfl]
  | succ f ih =>
    intro g k acc hf hg
    cases g with
    | zero => obtain rfl : k = 0 := by omega
              unfold mDigits; rw [if_pos rfl]
    | succ g =>
      unfold mDigits
      by_cases h : k = 0
      · rw [if_pos h, if_pos h]
      · rw [if_neg h, if_neg h]
        exact ih g (k / 10) _ (by omega) (by omega)
def mDig (k : Nat) (acc : List UInt8) : List UInt8 := mDigits k k acc
theorem mDig_zero (acc : List UInt8) : mDig 0 acc = acc := rfl
theorem mDig_step {k : Nat} (h : 0 < k) (acc : List UInt8) : mDig k acc = mDig (k / 10) (UInt8.ofNat (48 + k % 10) :: acc) := by
  unfold mDig
  obtain ⟨f, rfl⟩ : ∃ f, k = f + 1 := ⟨k - 1, by omega⟩
  conv => lhs; unfold mDigits
  rw [if_neg (by omega)]
  exact mDigits_more _ _ _ _ (by omega) (by omega)
/-- The text of a mark. -/
def markTx (k : Nat) : ByteArray := if k = 0 then ⟨#[109, 48]⟩ else ⟨#[109]⟩ ++ ⟨(mDig k []).toArray⟩
def mkStringS (k : Int) : Value := .string (markTx k.toNat)

theorem digit_str_is (wr : World) (k : Nat) : (convert 188 9 (.slice (some ⟨wr.heap.size, 0, none⟩) 1 1)).run Try.prog (wr.alloc (.cells #[.int .u8 (48 + (k : Int) % 10)] 5)) = .ok (.string ⟨[UInt8.ofNat (48 + k % 10)].toArray⟩) (wr.alloc (.cells #[.int .u8 (48 + (k : Int) % 10)] 5)) := by
  have e : (48 + (k : Int) % 10) = (((UInt8.ofNat (48 + k % 10)).toNat : Nat) : Int) := by
    rw [UInt8.toNat_ofNat', Nat.mod_eq_of_lt (by omega)]; omega
  have hO : (wr.alloc (.cells #[.int .u8 (48 + (k : Int) % 10)] 5)).ownsRow wr.heap.size 5 1 (.slice (some ⟨wr.heap.size, 0, none⟩) 1 1) [UInt8.ofNat (48 + k % 10)].length (Lib.byteCells [UInt8.ofNat (48 + k % 10)]) :=
    ⟨rfl, .inr ⟨wr.heap.size, 1, #[.int .u8 (48 + (k : Int) % 10)], rfl, Nat.le_refl _, heap_alloc_new _ _, Nat.le_refl _, by simp [maxLen], rfl, by show [Value.int .u8 (48 + (k : Int) % 10)] = [Value.int .u8 (((UInt8.ofNat (48 + k % 10)).toNat : Nat) : Int)]; rw [e]⟩⟩
  exact run_str2 hO
theorem cons_bytes (d : UInt8) (l : List UInt8) : (⟨[d].toArray⟩ : ByteArray) ++ ⟨l.toArray⟩ = ⟨(d :: l).toArray⟩ := by
  apply ByteArray.ext
  rw [ByteArray.data_append]
  simp

set_option maxRecDepth 100000 in
theorem markText_is (k0 : Nat) (w : World) (hk : k0 ≤ 1099511627776) :
    Calls Try.prog 83 #[.int .i64 k0] w fun e w' => e = .returned (.string (markTx k0)) ∧ Below w.heap.size w w' := by
  rcases Nat.eq_zero_or_pos k0 with h0 | h0
  · subst h0
    go_enter Try.func83, Try.ntmps83
    go_wp2_with fail
    go_ret
    exact ⟨rfl, Below.refl _ _⟩
  · have HE : Hid (markTx k0 = ⟨#[109]⟩ ++ ⟨(mDig k0 []).toArray⟩) := by unfold Hid markTx; rw [if_neg (by omega)]
    go_enter Try.func83, Try.ntmps83
    go_wp2_with fail
    go_loopw [0, 3] (fun kv sv wr => ∃ (k : Nat) (l : List UInt8), kv = .int .i64 k ∧ sv = .string ⟨l.toArray⟩ ∧ k + l.length ≤ 1099511627776 ∧ Below w.heap.size w wr ∧ Hid (mDig k0 [] = mDig k l)) (fun kv _ _ => (intOf kv).toNat)
    case atStart => exact ⟨k0, [], rfl, rfl, by show _ + 0 ≤ _; omega, Below.refl _ _, rfl⟩
    case round =>
      obtain ⟨k, l, rfl, rfl, hks, hB, HQ⟩ := hrel
      rcases Nat.eq_zero_or_pos k with h1 | h1
      · subst h1
        go_wp2_with fail
        go_ret
        refine ⟨?_, hB⟩
        rw [HE.out, HQ.out, mDig_zero]
        rfl
      · have hcv := digit_str_is wr k
        have HQ2 : Hid (mDig k0 [] = mDig (k / 10) (UInt8.ofNat (48 + k % 10) :: l)) := by unfold Hid; rw [HQ.out, mDig_step h1]
        have HC : Hid ((⟨[UInt8.ofNat (48 + k % 10)].toArray⟩ : ByteArray) ++ ⟨l.toArray⟩ = ⟨(UInt8.ofNat (48 + k % 10) :: l).toArray⟩) := cons_bytes _ _
        obtain ⟨s1, hs1⟩ : ∃ s1 : ByteArray, s1 = ⟨[UInt8.ofNat (48 + k % 10)].toArray⟩ := ⟨_, rfl⟩
        obtain ⟨s2, hs2⟩ : ∃ s2 : ByteArray, s2 = ⟨l.toArray⟩ := ⟨_, rfl⟩
        have z1 : s1.size = 1 := by rw [hs1]; rfl
        have z2 : s2.size = l.length := by rw [hs2]; simp [ByteArray.size]
        rw [← hs1] at hcv HC
        rw [← hs2] at HC ⊢
        have hss : s1.size + s2.size ≤ 1099511627776 := by omega
        have HZ := Lib.hid z2
        clear hs1 hs2 z1 z2
        have hB2 : Below w.heap.size w (wr.alloc (.cells #[.int .u8 (48 + (k : Int) % 10)] 5)) := below_step hB (laid_below _ _)
        go_wp2_with fail
        go_roundw
        case rel => exact ⟨k / 10, _, by go_num, by rw [HC.out], by rw [List.length_cons]; omega, hB2, HQ2⟩
        case measure => simp [intOf]; omega

theorem mkStringS_at (k0 j : Nat) : mkStringS ((k0 : Int) + (j : Int)) = .string (markTx (k0 + j)) := by
  unfold mkStringS; rw [show ((k0 : Int) + (j : Int)).toNat = k0 + j by omega]

set_option maxHeartbeats 400000 in
set_option maxRecDepth 100000 in
theorem markStringS_nat (base : Nat) (v : Value) (n : Nat) (k0 : Nat) (xs : List Value) (w : World) (ho : w.ownsRow base 9 1 v n xs) (hk1 : k0 ≤ 1073741824) (hn : n ≤ 4194304) :
    Calls Try.prog 19 #[v, .int .i64 k0] w fun e w' => e = .returned (.int .i64 ((k0 + n : Nat) : Int)) ∧ w'.ownsRow base 9 1 v n (marks mkStringS k0 n) ∧ w.grownBy w' v.ownBlock := by
  have HL : Hid (xs.length = n) := by have := ho.1; unfold Hid; omega
  rcases ho.2 with ⟨rfl, rfl⟩ | ⟨g, cap, cur, rfl, hbg, hh, hnc, hcm, hcs, htk⟩
  · go_enter Try.func19, Try.ntmps19
    go_wp2
    refine wp_loop_rounds 1 ?_
    rw [rounds_succ]
    go_wp2
    go_ret
    exact ⟨by simp, World.ownsRow_nil _ _ _ _, World.grownBy.refl _ _⟩
  · clear hh hcs htk
    go_enter Try.func19, Try.ntmps19
    go_wp2
    go_loopw [1, 5] (fun kk i wr => ∃ (k : Nat), k ≤ n ∧ i = .int .i64 k ∧ kk = .int .i64 ((k0 + k : Nat) : Int) ∧ wr.ownsRow base 9 1 (.slice (some ⟨g, 0, none⟩) n cap) n (marks mkStringS k0 k ++ xs.drop k) ∧ w.grownBy wr (some g)) (fun _ i _ => n - (intOf i).toNat)
    case atStart => exact ⟨0, Nat.zero_le _, rfl, rfl, by simpa [marks] using ho, World.grownBy.refl _ _⟩
    case round =>
      obtain ⟨k, hk, rfl, rfl, hown, hgr⟩ := hrel
      clear ho
      by_cases hlt : k < n
      · go_wp2_with fail
        refine (markText_is (k0 + k) wr (by omega)).mono ?_
        rintro e w1 ⟨rfl, hB1⟩
        have hown1 := own_below' hown hB1
        have hgr1 := hgr.trans (grown_of_below hB1 _)
        obtain ⟨x, hx⟩ := own_some hown1 (j := k) (by omega)
        have hf := hown1.frozenAt k
        have hst := hown1.stored k (.string (markTx (k0 + k)))
        rw [← mkStringS_at, marks_set _ _ _ _ (by have := HL.out; omega)] at hst
        have HS := Lib.hid hst
        have HM : Hid (mkStringS ((k0 : Int) + (k : Int)) = .string (markTx (k0 + k))) := mkStringS_at k0 k
        rw [HM.out] at HS
        clear hown hown1 hgr hB1 hst
        go_wp2_with fail
        go_roundw
        case rel => exact ⟨k + 1, by omega, by go_num, by go_num, HS.out.1, hgr1.trans HS.out.2⟩
        case measure => simp [intOf]; omega
      · go_wp2
        go_ret
        obtain rfl : k = n := by omega
        refine ⟨rfl, ?_, hgr⟩
        rw [List.drop_of_length_le (by have := HL.out; omega), List.append_nil] at hown
        exact hown
theorem markStringS_any (base : Nat) (v : Value) (n : Nat) (k0 : Int) (xs : List Value) (w : World) (ho : w.ownsRow base 9 1 v n xs) (hk0 : 0 ≤ k0) (hk1 : k0 ≤ 1073741824) (hn : n ≤ 4194304) :
    Calls Try.prog 19 #[v, .int .i64 k0] w fun e w' => e = .returned (.int .i64 (k0 + n)) ∧ w'.ownsRow base 9 1 v n (marks mkStringS k0 n) ∧ w.grownBy w' v.ownBlock := by
  obtain ⟨m, rfl⟩ := Int.eq_ofNat_of_zero_le hk0
  have h := markStringS_nat base v n m xs w ho (by omega) hn
  rw [Int.natCast_add] at h
  exact h

set_option maxHeartbeats 400000 in
set_option maxRecDepth 100000 in
theorem heldStringS_nat (A : Option Addr) (n c : Nat) (k0 : Nat) (w : World) (ha : Arg w A n (marks mkStringS k0 n)) (hk1 : k0 ≤ 1073741824) (hn : n ≤ 4194304) :
    Calls Try.prog 20 #[.slice A n c, .int .i64 k0] w fun e w' => e = .returned (.int .i64 ((k0 + n : Nat) : Int)) ∧ Below w.heap.size w w' := by
  go_enter Try.func20, Try.ntmps20
  go_wp2
  go_loopw [1, 5] (fun kk i wr => ∃ (k : Nat), k ≤ n ∧ i = .int .i64 k ∧ kk = .int .i64 ((k0 + k : Nat) : Int) ∧ Below w.heap.size w wr) (fun _ i _ => n - (intOf i).toNat)
  case atStart => exact ⟨0, Nat.zero_le _, rfl, rfl, Below.refl _ _⟩
  case round =>
    obtain ⟨k, hk, rfl, rfl, hB⟩ := hrel
    by_cases hlt : k < n
    · obtain ⟨b, off, rfl, hs⟩ := ha.sl hlt
      have hc := (hs.below' hB).at (marks_at mkStringS k0 n k hlt)
      rw [mkStringS_at] at hc
      obtain ⟨s, hs0⟩ : ∃ s, s = markTx (k0 + k) := ⟨_, rfl⟩
      have HT := Lib.hid (markText_is (k0 + k))
      rw [← hs0] at hc HT
      have hss : (s.toList != s.toList) = false := by simp
      clear hs0 hs ha
      go_wp2_with fail
      go_region_held3 (fun W => W.cell? ⟨b, off + k, none⟩ = some (.string s)) (first | go_keep | exact r0)
        ((go_at_call 83; refine (HT.out _ (by omega)).mono ?_; rintro e w1 ⟨rfl, b1⟩; have b2 := below_drew_at b1; have r0 := cell_step (by exact hc) b2; have hB1 := below_step hB b2))
      all_goals
        clear hB hc r0 b1 b2
        go_wp2_with fail
        go_roundw
        case rel => exact ⟨k + 1, by omega, by go_num, by go_num, hB1⟩
        case measure => simp [intOf]; omega
    · go_wp2
      go_ret
      obtain rfl : k = n := by omega
      exact ⟨rfl, hB⟩
theorem heldStringS_any (A : Option Addr) (n c : Nat) (k0 : Int) (w : World) (ha : Arg w A n (marks mkStringS k0 n)) (hk0 : 0 ≤ k0) (hk1 : k0 ≤ 1073741824) (hn : n ≤ 4194304) :
    Calls Try.prog 20 #[.slice A n c, .int .i64 k0] w fun e w' => e = .returned (.int .i64 (k0 + n)) ∧ Below w.heap.size w w' := by
  obtain ⟨m, rfl⟩ := Int.eq_ofNat_of_zero_le hk0
  have h := heldStringS_nat A n c m w ha (by omega) hn
  rw [Int.natCast_add] at h
  exact h
end Go.Proofs.Yteocnkiagifmfaa
