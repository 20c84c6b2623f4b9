/- Words turned round and blanks cut off, on both sides. -/
import Derived.Test.YtjakgeblmkdbpaaCfgMach2
import Derived.Test.YtjakgeblmkdbpaaWordsN
import Derived.Test.YtjakgeblmkdbpaaSortRow
import Derived.Test.YtjakgeblmkdbpaaRevLay
namespace Go.Proofs.Ytjakgeblmkdbpaa
open Go.RowKit Go.Sort
set_option linter.all false

theorem reverse_any (base g n c : Nat) (xs : List Int) (w : World) (hown : w.ownsRow base 2 1 (.slice (some ⟨g, 0, none⟩) n c) n (xs.map (Value.int .i64))) (hn : n ≤ 1048576) :
    Calls Try.prog 166 #[.slice (some ⟨g, 0, none⟩) n c] w fun e w' => e = .returned (.tuple #[]) ∧ w'.ownsRow base 2 1 (.slice (some ⟨g, 0, none⟩) n c) n (xs.reverse.map (Value.int .i64)) ∧ w.grownBy w' (Value.slice (some ⟨g, 0, none⟩) n c).ownBlock := by
  have hl : xs.length = n := by have := hown.1; simpa using this
  by_cases h0 : n = 0
  · subst h0
    have hx : xs = [] := List.eq_nil_of_length_eq_zero hl
    subst hx
    refine (AnyG.slices_Reverse_int_empty Try.layReverse (some ⟨g, 0, none⟩) c w).mono ?_
    rintro e w' ⟨rfl, rfl⟩
    exact ⟨rfl, hown, ⟨rfl, rfl, rfl, Nat.le_refl _, fun _ _ _ => rfl⟩⟩
  have hk := AnyG.slices_Reverse_int Try.layReverse g 0 c xs w (holds_of_own hown) (by omega)
  rw [hl] at hk
  refine hk.mono ?_
  rintro e w' ⟨rfl, q, rfl⟩
  obtain ⟨h1, h2⟩ := own_putRow hown xs.reverse (by simp; omega) q
  exact ⟨rfl, h1, h2⟩

set_option maxRecDepth 100000 in
theorem reversed_any (b off n c : Nat) (xs : List Int) (w : World) (hs : Sl w b off (xs.map (Value.int .i64))) (hl : xs.length = n) (hn : n ≤ 1048576) :
    Calls Try.prog 124 #[.slice (some ⟨b, off, none⟩) n c] w fun e w' => ∃ g d, e = .returned (.slice (some ⟨g, 0, none⟩) n d) ∧ w'.ownsRow w.heap.size 2 1 (.slice (some ⟨g, 0, none⟩) n d) n (xs.reverse.map (Value.int .i64)) ∧ Below w.heap.size w w' ∧ n ≤ d := by
  go_enter Try.func124, Try.ntmps124
  go_wp2_with fail
  refine (cloneA_any b off n c xs _ hs hl hn).mono ?_
  rintro e w1 ⟨g, d, rfl, own1, b1, hd⟩
  go_wp2_with fail
  refine (reverse_any w.heap.size g n d xs _ own1 hn).mono ?_
  rintro e w2 ⟨rfl, own2, hg2⟩
  have B2 := grown_below b1 own1 (Nat.le_refl _) hg2
  go_wp2_with fail
  go_ret
  exact ⟨g, d, rfl, own2, B2, hd⟩

set_option maxRecDepth 100000 in
theorem trimmed_any (g n d : Nat) (y : List Int) (w : World) (hs : Sl w g 0 (y.map (Value.int .i64))) (hl : y.length = n) (hn : n ≤ 1048576) (hd : n ≤ d) :
    Calls Try.prog 126 #[.slice (some ⟨g, 0, none⟩) n d] w fun e w' => e = .returned (.slice (some ⟨g, 0, none⟩) (trimN y n) d) ∧ w = w' := by
  have HL := Lib.hid hl; clear hl
  go_enter Try.func126, Try.ntmps126
  go_wp2_with fail
  go_loop [0] (fun v => ∃ k : Nat, k ≤ n ∧ v = .slice (some ⟨g, 0, none⟩) k d ∧ Hid (trimN y n = trimN y k)) (fun v => match v with | .slice _ m _ => m | _ => 0)
  case atStart => exact ⟨n, Nat.le_refl _, rfl, rfl⟩
  case round =>
    obtain ⟨k, hk, rfl, HT⟩ := hrel
    rcases Nat.eq_zero_or_pos k with h0 | h0
    · subst h0
      have HF : Hid (trimN y n = 0) := HT.out
      go_wp2_with fail
      go_ret
      exact ⟨by rw [HF.out]; rfl, rfl⟩
    obtain ⟨p, rfl⟩ : ∃ p, k = p + 1 := ⟨k - 1, by omega⟩
    obtain ⟨a, HA, ha⟩ := map_at (Value.int .i64) y (k := p) (by have := HL.out; omega)
    have hca := hs.at ha
    rw [Nat.zero_add] at hca
    have e1 : IntKind.i64.wrap (((p + 1 : Nat) : Int) - 1) = (p : Int) := by rw [IntWalk.i64_in _ (by omega)]; omega
    have hpd : (p : Int) ≤ (d : Int) := by omega
    have hp0 : (0 : Int) ≤ (p : Int) := by omega
    have hpk : (p : Int) < ((p + 1 : Nat) : Int) := by omega
    clear ha h0
    by_cases hz : a = 0
    · have ez : (a == 0) = true := by simpa using hz
      have HT2 : Hid (trimN y n = trimN y p) := by unfold Hid; rw [HT.out, trimN_zero (by rw [getD_at HA.out]; exact hz)]
      clear hz
      go_wp2_with fail
      go_round
      case rel => exact ⟨p, by omega, by first | rfl | simp, HT2⟩
      case measure => simp
    · have ez : (a == 0) = false := by simpa using hz
      have HF : Hid (trimN y n = p + 1) := by unfold Hid; rw [HT.out, trimN_stop (by rw [getD_at HA.out]; exact hz)]
      clear hz
      go_wp2_with fail
      go_ret
      exact ⟨by rw [HF.out]; rfl, rfl⟩

set_option maxRecDepth 100000 in
theorem l03Reverse_any (b off n c : Nat) (xs : List Int) (w : World) (hs : Sl w b off (xs.map (Value.int .i64))) (hl : xs.length = n) (hn : n ≤ 1048576) :
    Calls Try.prog 116 #[.slice (some ⟨b, off, none⟩) n c] w fun e w' => ∃ g d, e = .returned (.slice (some ⟨g, 0, none⟩) n d) ∧ w'.ownsRow w.heap.size 2 1 (.slice (some ⟨g, 0, none⟩) n d) n (xs.reverse.map (Value.int .i64)) ∧ Below w.heap.size w w' ∧ n ≤ d := by
  have HL := Lib.hid hl; clear hl
  obtain ⟨w1, HW1, B1, own1⟩ : ∃ w1, Hid (w1 = w.alloc (.cells #[] 2)) ∧ Below w.heap.size w w1 ∧ w1.ownsRow w.heap.size 2 1 (.slice (some ⟨w.heap.size, 0, none⟩) 0 0) 0 [] := ⟨_, rfl, laid_below _ _, own_empty w _ 1⟩
  have wn : IntKind.i64.wrap ((n : Int) - 1) = (n : Int) - 1 := IntWalk.i64_in _ (by omega)
  go_enter Try.func116, Try.ntmps116
  go_wp2_with fail
  rw [← HW1.out]
  go_loopw [3, 4] (fun V i wr => ∃ k g d : Nat, k ≤ n ∧ i = .int .i64 ((k : Int) - 1) ∧ V = .slice (some ⟨g, 0, none⟩) (n - k) d ∧ n - k ≤ d ∧ wr.ownsRow w.heap.size 2 1 (.slice (some ⟨g, 0, none⟩) (n - k) d) (n - k) ((xs.drop k).reverse.map (Value.int .i64)) ∧ Below w.heap.size w wr) (fun _ i _ => (intOf i + 1).toNat)
  case atStart => exact ⟨n, w.heap.size, 0, Nat.le_refl _, rfl, by rw [Nat.sub_self], by omega, by rw [Nat.sub_self, List.drop_of_length_le (by have := HL.out; omega)]; exact own1, B1⟩
  case round =>
    obtain ⟨k, g, d, hk, rfl, rfl, hd, hown, hB⟩ := hrel
    clear own1 B1 HW1
    rcases Nat.eq_zero_or_pos k with h0 | h0
    · subst h0
      have e0 : ((0 : Nat) : Int) - 1 = -1 := rfl
      rw [e0]
      rw [Nat.sub_zero, List.drop_zero] at hown
      rw [Nat.sub_zero] at hd
      go_wp2_with fail
      go_ret
      exact ⟨g, d, by rw [Nat.sub_zero]; rfl, hown, hB, hd⟩
    obtain ⟨p, rfl⟩ : ∃ p, k = p + 1 := ⟨k - 1, by omega⟩
    have e0 : ((p + 1 : Nat) : Int) - 1 = (p : Int) := by omega
    rw [e0]
    obtain ⟨a, HA, ha⟩ := map_at (Value.int .i64) xs (k := p) (by have := HL.out; omega)
    have hca := (hs.below' hB).at ha
    have hp0 : (0 : Int) ≤ (p : Int) := by omega
    have hpn : (p : Int) < (n : Int) := by omega
    have wp : IntKind.i64.wrap ((p : Int) - 1) = (p : Int) - 1 := IntWalk.i64_in _ (by omega)
    obtain ⟨m, hm⟩ : ∃ m, n - (p + 1) = m := ⟨_, rfl⟩
    rw [hm] at hown hd ⊢
    have hmp : n - p = m + 1 := by omega
    obtain ⟨wa, HWA, BA, xa⟩ := al1 wr (.cells #[.int .i64 a] 2)
    have srca : Src 1 wa (.slice (some ⟨wr.heap.size, 0, none⟩) 1 1) 1 ([a].map (Value.int .i64)) := Src.of_sl ⟨heap_lt xa, fun q v hq => by rw [cell_of_heap xa]; simpa using hq⟩ rfl
    have owna := own_below' hown BA
    have hsz := Nat.le_trans hB.size BA.size
    have BW := below_step hB BA
    clear xa ha e0 h0 hm
    go_wp2_with (at_builtin; rw [← HWA.out]; refine wpList_appx rfl _ _ _ rfl Try.underlying25 infoInt64S rfl (by omega) w.heap.size owna hsz rfl srca rfl (one_ints _ _) (by unfold maxLen; omega) (by omega) ?_; intro V4 w4 own4 hg4 hnil4; have hne4 : V4 ≠ .slice none 0 0 := (fun h => by have := (hnil4 h).2; omega); have BG := grown_below BW owna (Nat.le_refl _) hg4; obtain ⟨g4, d4, hV4, hd4⟩ := own_adr own4 hne4; subst hV4; clear hnil4 hne4 hg4)
    have own5 : w4.ownsRow w.heap.size 2 1 (.slice (some ⟨g4, 0, none⟩) (n - p) d4) (n - p) ((xs.drop p).reverse.map (Value.int .i64)) := by
      rw [hmp, drop_at HA.out, List.reverse_cons, List.map_append]; exact own4
    have hd5 : n - p ≤ d4 := by omega
    have hV5 : Value.slice (some ⟨g4, 0, none⟩) (m + 1) d4 = .slice (some ⟨g4, 0, none⟩) (n - p) d4 := by rw [hmp]
    have HV5 := Lib.hid hV5
    clear own4 hown owna srca hsz BW BA hB hca hV5 hmp
    go_roundw
    case rel => exact ⟨p, g4, d4, by omega, by go_num, HV5.out, hd5, own5, BG⟩
    case measure => first | (simp [intOf]; done) | (simp [intOf]; omega)

set_option maxRecDepth 100000 in
theorem l05Trim_any (b off n c : Nat) (y : List Int) (w : World) (hs : Sl w b off (y.map (Value.int .i64))) (hl : y.length = n) (hn : n ≤ 1048576) (hc : n ≤ c) :
    Calls Try.prog 115 #[.slice (some ⟨b, off, none⟩) n c] w fun e w' => ∃ g d, e = .returned (.slice (some ⟨g, 0, none⟩) (trimN y n) d) ∧ w'.ownsRow w.heap.size 2 1 (.slice (some ⟨g, 0, none⟩) (trimN y n) d) (trimN y n) ((trimL y).map (Value.int .i64)) ∧ Below w.heap.size w w' ∧ trimN y n ≤ d := by
  have HL := Lib.hid hl; clear hl
  go_enter Try.func115, Try.ntmps115
  go_wp2_with fail
  go_loop [3] (fun v => ∃ k : Nat, k ≤ n ∧ v = .int .i64 k ∧ Hid (trimN y n = trimN y k)) (fun v => (intOf v).toNat)
  case atStart => exact ⟨n, Nat.le_refl _, rfl, rfl⟩
  case round =>
    obtain ⟨k, hk, rfl, HT⟩ := hrel
    have hstop : trimN y k = k → Calls Try.prog 164 #[.slice (some ⟨b, off, none⟩) k c] w fun e w' => ∃ g d, e = .returned (.slice (some ⟨g, 0, none⟩) k d) ∧ w'.ownsRow w.heap.size 2 1 (.slice (some ⟨g, 0, none⟩) k d) k ((trimL y).map (Value.int .i64)) ∧ Below w.heap.size w w' ∧ k ≤ d := by
      intro he
      have e2 : trimL y = y.take k := by rw [trimL, HL.out, HT.out, he]
      rw [e2]
      exact l00OwnA_any b off k c (y.take k) w (hs.to k) (by have := HL.out; simp; omega) (by omega)
    have HST := Lib.hid hstop; clear hstop
    rcases Nat.eq_zero_or_pos k with h0 | h0
    · subst h0
      have HC := Lib.hid (HST.out rfl)
      have HF : Hid (trimN y n = 0) := HT.out
      have hc0 : (0 : Int) ≤ (c : Int) := by omega
      clear hs
      go_wp2_with fail
      refine HC.out.mono ?_
      rintro e w1 ⟨g, d, rfl, own1, b1, hd⟩
      go_wp2_with fail
      go_ret
      exact ⟨g, d, by rw [HF.out]; rfl, by rw [HF.out]; exact own1, b1, by rw [HF.out]; exact hd⟩
    obtain ⟨p, rfl⟩ : ∃ p, k = p + 1 := ⟨k - 1, by omega⟩
    obtain ⟨a, HA, ha⟩ := map_at (Value.int .i64) y (k := p) (by have := HL.out; omega)
    have hca := hs.at ha
    have e1 : IntKind.i64.wrap (((p + 1 : Nat) : Int) - 1) = (p : Int) := by rw [IntWalk.i64_in _ (by omega)]; omega
    have e2 : ((p + 1 : Nat) : Int) - 1 = (p : Int) := by omega
    have hp0 : (0 : Int) ≤ (p : Int) := by omega
    have hpn : (p : Int) < (n : Int) := by omega
    have hpk : (0 : Int) < ((p + 1 : Nat) : Int) := by omega
    have hpc : ((p + 1 : Nat) : Int) ≤ (c : Int) := by omega
    clear ha h0
    by_cases hz : a = 0
    · have ez : (a == 0) = true := by simpa using hz
      have HT2 : Hid (trimN y n = trimN y p) := by unfold Hid; rw [HT.out, trimN_zero (by rw [getD_at HA.out]; exact hz)]
      clear hz e2
      go_wp2_with fail
      go_round
      case rel => exact ⟨p, by omega, by first | rfl | simp, HT2⟩
      case measure => first | (simp [intOf]; done) | (simp [intOf]; omega)
    · have ez : (a == 0) = false := by simpa using hz
      have hst := trimN_stop (x := y) (n := p) (by rw [getD_at HA.out]; exact hz)
      have HF : Hid (trimN y n = p + 1) := by unfold Hid; rw [HT.out, hst]
      have HC := Lib.hid (HST.out hst)
      clear hz hst e2 hs
      go_wp2_with fail
      refine HC.out.mono ?_
      rintro e w1 ⟨g, d, rfl, own1, b1, hd⟩
      go_wp2_with fail
      go_ret
      exact ⟨g, d, by rw [HF.out]; rfl, by rw [HF.out]; exact own1, b1, by rw [HF.out]; exact hd⟩
end Go.Proofs.Ytjakgeblmkdbpaa
