/- Numbers in decimal: the program's, for small numbers, and the reference's. -/
import Derived.Test.YtjakgeblmkdbpaaDoorJoinLay
import Derived.Test.YtjakgeblmkdbpaaDoorNums
import Derived.Test.YtjakgeblmkdbpaaDoorApp
import Derived.Test.YtjakgeblmkdbpaaDoorMarkStr
import Derived.Test.YtjakgeblmkdbpaaDoorAppAt
import Derived.Test.YtjakgeblmkdbpaaDoorCopy
import Derived.Test.YtjakgeblmkdbpaaDoorSGrid
namespace Go.Proofs.YtjakgeblmkdbpaaDoor
open Go.RowKit
set_option linter.all false

theorem formatSmall (i : Nat) (hi : i < 100) (w : World) :
    Calls Tryd.prog 92 #[.int .i64 i, .int .i64 10] w fun e w' => e = .returned (.string ⟨(Lib.decDigits i).toArray⟩) ∧ w' = w := Any.strconv_FormatInt_10_small Tryd.layFormat i hi w
theorem decimal_small (i : Nat) (hi : i < 100) (w : World) :
    Calls Tryd.prog 57 #[.int .i64 i] w fun e w' => e = .returned (.string ⟨(Lib.decDigits i).toArray⟩) ∧ w = w' := by
  go_enter Tryd.func57, Tryd.ntmps57
  go_wp2_with (go_at_call 92; refine (formatSmall i hi _).mono ?_; rintro e w' ⟨rfl, rfl⟩)
  go_ret
  exact ⟨rfl, rfl⟩

theorem strings_Join_any (bk o n c : Nat) (xs : List ByteArray) (sep : ByteArray) (w : World) (hn : xs.length = n)
    (hcells : ∀ (j : Nat) x, xs[j]? = some x → w.cell? ⟨bk, o + j, none⟩ = some (.string x))
    (hbk : bk < w.heap.size) (hN : n ≤ 140737488355328) (hcap : n ≤ c)
    (hlen : (Lib.join (xs.map (·.data.toList)) sep.data.toList).length ≤ 140737488355328) :
    Calls Tryd.prog 58 #[.slice (some ⟨bk, o, none⟩) n c, .string sep] w fun e w' => e = .returned (.string ⟨(Lib.join (xs.map (·.data.toList)) sep.data.toList).toArray⟩) ∧ Below w.heap.size w w' := by
  subst hn
  exact Any.strings_Join Tryd.layJoin Tryd.joinExtra bk o c xs sep w hcells hbk hN hcap hlen

/-- The digits, none for 0. -/
def digs (m : Nat) : List UInt8 := if m = 0 then [] else Lib.decDigits m
theorem digs_step {m : Nat} (h : m ≠ 0) : digs m = digs (m / 10) ++ [UInt8.ofNat (48 + m % 10)] := by
  unfold digs
  rw [if_neg h]
  by_cases h1 : m < 10
  · rw [Lib.decDigits_one h1, if_pos (by omega), show m % 10 = m by omega]; rfl
  · rw [if_neg (by omega), Lib.decDigits, dif_neg h1]
theorem digs_len (m : Nat) : (digs m).length ≤ m := by
  induction m using Nat.strongRecOn with
  | ind m ih =>
    by_cases h : m = 0
    · unfold digs; rw [if_pos h]; simp
    · rw [digs_step h, List.length_append, List.length_singleton]
      have := ih (m / 10) (by omega)
      omega
theorem infoByteD : (Tryd.prog.info? 5).map (fun i => (i.zero, i.size, i.bytes)) = some (some (Value.int .u8 0), 1, 1) := by kernel_rfl
theorem byteCells_snoc (l : List UInt8) (b : UInt8) : Lib.byteCells (l ++ [b]) = Lib.byteCells l ++ [.int .u8 (b.toNat : Int)] := by unfold Lib.byteCells; rw [List.map_append]; rfl
theorem byteCells_at {l : List UInt8} {k : Nat} {b : UInt8} (h : l[k]? = some b) : (Lib.byteCells l)[k]? = some (.int .u8 (b.toNat : Int)) := by unfold Lib.byteCells; rw [List.getElem?_map, h]; rfl
theorem byteCells_len (l : List UInt8) : (Lib.byteCells l).length = l.length := by unfold Lib.byteCells; rw [List.length_map]

set_option maxRecDepth 100000 in
set_option maxHeartbeats 2000000 in
theorem l01Dec_any (n : Nat) (hn : n ≤ 1048576) (w : World) :
    Calls Tryd.prog 53 #[.int .i64 n] w fun e w' => e = .returned (.string ⟨(Lib.decDigits n).toArray⟩) ∧ Below w.heap.size w w' := by
  by_cases h0 : n = 0
  · subst h0
    have h1 : Hid (Lib.decDigits 0 = [48]) := by unfold Hid; rw [Lib.decDigits_one (by omega)]; rfl
    go_enter Tryd.func53, Tryd.ntmps53
    go_wp2_with fail
    go_ret
    exact ⟨by rw [h1.out]; rfl, Below.refl _ _⟩
  have hnI : ¬ (n : Int) = 0 := by omega
  have hbe : ((n : Int) == 0) = false := by rw [beq_eq_false_iff_ne]; exact hnI
  have hneg : ¬ (n : Int) < 0 := by omega
  have HN0 := Lib.hid h0
  obtain ⟨wa, HWa, Ba, xa⟩ := al1 w (.cells #[] 5)
  have HO0 : Hid (wa.ownsRow w.heap.size 5 1 (.slice (some ⟨w.heap.size, 0, none⟩) 0 0) 0 (Lib.byteCells [])) := by
    have := own_of_block (n := 0) (cap := 0) (s := 1) (xs := []) (base := w.heap.size) xa (Nat.le_refl _) rfl (Nat.le_refl _) (Nat.zero_le _)
    unfold Hid
    simpa [Lib.byteCells] using this
  clear xa h0
  go_enter Tryd.func53, Tryd.ntmps53
  go_wp2_with fail
  rw [← HWa.out]
  go_loopw [3, 4] (fun d m wr => ∃ (k : Nat) (V : Value) (ds : List UInt8), m = .int .i64 k ∧ V = d ∧ k ≤ n ∧ Hid (wr.ownsRow w.heap.size 5 1 V ds.length (Lib.byteCells ds)) ∧ Hid (Below w.heap.size w wr) ∧ Hid (digs n = digs k ++ ds.reverse)) (fun _ m _ => (intOf m).toNat)
  case atStart => exact ⟨n, _, [], rfl, rfl, Nat.le_refl _, HO0, Ba, by unfold Hid; simp⟩
  case round =>
    obtain ⟨k, V, ds, rfl, rfl, hk, HO, HB, HD⟩ := hrel
    obtain ⟨ld, hld⟩ : ∃ l, ds.length = l := ⟨_, rfl⟩
    have HLD := Lib.hid hld
    have hll : ld ≤ 1048576 := by
      have h1 := congrArg List.length HD.out
      rw [List.length_append, List.length_reverse] at h1
      have := digs_len n
      omega
    have own := HO.out
    rw [hld] at own
    obtain ⟨AV, cV, hAV⟩ := own_form own
    subst hAV
    clear hld
    by_cases hz : k = 0
    · subst hz
      have e00 : ((0 : Nat) : Int) = 0 := rfl
      rw [e00]
      clear e00
      have HT : Hid (Lib.decDigits n = ds.reverse) := by
        have h1 := HD.out
        unfold digs at h1
        rw [if_neg HN0.out, if_pos rfl, List.nil_append] at h1
        exact h1
      obtain ⟨w3, HW3, b3, x3⟩ := al1 wr (.cells #[] 5)
      have HO3 : Hid (w3.ownsRow w.heap.size 5 1 (.slice (some ⟨wr.heap.size, 0, none⟩) 0 0) 0 (Lib.byteCells [])) := by
        have := own_of_block (n := 0) (cap := 0) (s := 1) (xs := []) (base := w.heap.size) x3 (by have := HB.out.size; omega) rfl (Nat.le_refl _) (Nat.zero_le _)
        unfold Hid
        simpa [Lib.byteCells] using this
      have HDS3 := Lib.hid (own_below' own b3)
      have HAP3 : Hid ((Value.slice (some ⟨wr.heap.size, 0, none⟩) 0 0).ownBlock ≠ (Value.slice AV ld cV).ownBlock) := by
        intro e
        have := (own.lt wr.heap.size e.symm).2
        omega
      have HB3 := Lib.hid (below_step HB.out b3)
      have hwl : IntKind.i64.wrap ((ld : Int) - 1) = (ld : Int) - 1 := IntWalk.i64_in _ (by omega)
      clear x3 b3 own
      go_wp2_with fail
      rw [← HW3.out]
      go_loopw [6, 7] (fun o i wr => ∃ (j : Nat) (z : Int) (V : Value), j ≤ ld ∧ i = .int .i64 z ∧ Hid (z = (j : Int) - 1) ∧ V = o ∧ Hid (wr.ownsRow w.heap.size 5 1 V ((ds.drop j).reverse).length (Lib.byteCells ((ds.drop j).reverse))) ∧ Hid (wr.ownsRow w.heap.size 5 1 (.slice AV ld cV) ld (Lib.byteCells ds)) ∧ Hid (V.ownBlock ≠ (Value.slice AV ld cV).ownBlock) ∧ Hid (Below w.heap.size w wr)) (fun _ i _ => (intOf i + 1).toNat)
      case atStart => exact ⟨ld, _, _, Nat.le_refl _, rfl, rfl, rfl, by rw [List.drop_of_length_le (Nat.le_of_eq HLD.out)]; exact HO3, HDS3, HAP3, HB3⟩
      case round =>
        obtain ⟨j, z, V, hj, rfl, hz, rfl, HOJ, HDJ, HAJ, HBJ⟩ := hrel
        cases j with
        | zero =>
          obtain rfl : z = -1 := hz.out
          have hstr := run_str2 (l := ds.reverse) (by have := HOJ.out; rw [List.drop_zero] at this; exact this)
          go_wp2_with fail
          go_ret
          exact ⟨by rw [HT.out]; rfl, HBJ.out⟩
        | succ p =>
          obtain rfl : z = (p : Int) := by have := hz.out; omega
          have hp0 : (0 : Int) ≤ (p : Int) := by omega
          have hpI : (p : Int) < (ld : Int) := by omega
          obtain ⟨b0, HB0⟩ := hget HLD (k := p) (by omega)
          have hag := arg_of_own HDJ.out
          obtain ⟨bd, od, hAV, hsd⟩ := hag.sl (k := p) (by omega)
          have hca : wr.cell? ⟨bd, od + p, none⟩ = some (.int .u8 (b0.toNat : Int)) := hsd.at (byteCells_at HB0.out)
          have HDR : Hid ((ds.drop p).reverse = (ds.drop (p + 1)).reverse ++ [b0]) := by
            unfold Hid
            obtain ⟨h1, h2⟩ := List.getElem?_eq_some_iff.1 HB0.out
            rw [List.drop_eq_getElem_cons h1, h2, List.reverse_cons]
          obtain ⟨lj, hlj⟩ : ∃ l, ((ds.drop (p + 1)).reverse).length = l := ⟨_, rfl⟩
          have HLJ := Lib.hid hlj
          have hlj2 : lj ≤ 1048576 := by rw [← hlj, List.length_reverse, List.length_drop, HLD.out]; omega
          have own := HOJ.out
          rw [hlj] at own
          obtain ⟨AW, cW, hAW⟩ := own_form own
          subst hAW
          obtain ⟨w4, HW4, b4, x4⟩ := al1 wr (.cells #[.int .u8 (b0.toNat : Int)] 5)
          have own4 := own_below' own b4
          have own4d := own_below' HDJ.out b4
          have HB4 := Lib.hid (below_step HBJ.out b4)
          have src4 : Src 1 w4 (.slice (some ⟨wr.heap.size, 0, none⟩) 1 1) 1 [.int .u8 (b0.toNat : Int)] := Src.of_own (own_of_block (n := 1) (cap := 1) (s := 1) (xs := [.int .u8 (b0.toNat : Int)]) (base := 0) x4 (by omega) rfl (by omega) (by unfold maxLen; omega))
          have hwp : IntKind.i64.wrap ((p : Int) - 1) = (p : Int) - 1 := IntWalk.i64_in _ (by omega)
          subst hAV
          clear hlj x4 b4 own hag hsd
          go_wp2_with (at_builtin; rw [← HW4.out]; refine wpList_appy rfl _ _ _ rfl Tryd.underlying130 infoByteD rfl (by omega) w.heap.size own4 HB4.out.size rfl src4 rfl (by simp [Value.oneCell']) (by unfold maxLen; omega) (by omega) ?_; intro V5 w5 own5 hg5 hl5)
          have HO5 : Hid (w5.ownsRow w.heap.size 5 1 V5 ((ds.drop p).reverse).length (Lib.byteCells ((ds.drop p).reverse))) := by unfold Hid; rw [HDR.out, List.length_append, HLJ.out, byteCells_snoc]; exact own5
          have HD5 := Lib.hid (own4d.kept hg5 (.inr HAJ.out.symm))
          have HA5 : Hid (V5.ownBlock ≠ (Value.slice (some ⟨bd, od, none⟩) ld cV).ownBlock) := by
            unfold Hid
            rcases hl5 with h1 | h1
            · rw [h1]; exact HAJ.out
            · rw [h1]; intro e2
              have := (own4d.lt _ e2.symm).2
              omega
          have HB5 := Lib.hid (grown_below HB4.out own4 (Nat.le_refl _) hg5)
          clear own4 own4d own5 hg5 hl5 src4
          go_roundw
          case rel => exact ⟨p, _, _, by omega, rfl, rfl, rfl, HO5, HD5, HA5, HB5⟩
          case measure => first | (simp [intOf]; done) | (simp [intOf]; omega)
    · have hzI : ¬ (k : Int) = 0 := by omega
      have hzb : ((k : Int) != 0) = true := by rw [bne_iff_ne]; exact hzI
      have hrem : (k : Int).tmod 10 = ((k % 10 : Nat) : Int) := by rfl
      have hquo : (k : Int).tdiv 10 = ((k / 10 : Nat) : Int) := by rfl
      obtain ⟨q, hq⟩ : ∃ q : Nat, k / 10 = q := ⟨_, rfl⟩
      obtain ⟨r, hr⟩ : ∃ r : Nat, k % 10 = r := ⟨_, rfl⟩
      rw [hr] at hrem; rw [hq] at hquo
      have hr10 : r < 10 := by omega
      have hrn : ¬ (r : Int) < 0 := by omega
      have hw1 : IntKind.i64.wrap (48 + (r : Int)) = 48 + (r : Int) := IntWalk.i64_in _ (by omega)
      have hw2 : IntKind.u8.wrap (48 + (r : Int)) = 48 + (r : Int) := by
        simp only [IntKind.wrap, IntKind.bits, IntKind.signed]
        first | omega | (simp; omega)
      have HDN : Hid (digs n = digs q ++ (ds ++ [UInt8.ofNat (48 + r)]).reverse) := by
        unfold Hid
        rw [HD.out, digs_step hz, hq, hr, List.reverse_append]; simp
      have hbv : Hid (((UInt8.ofNat (48 + r)).toNat : Int) = 48 + (r : Int)) := by unfold Hid; rw [UInt8.toNat_ofNat']; omega
      have hqk : Hid (q < k) := by unfold Hid; omega
      have hwq : IntKind.i64.wrap (q : Int) = (q : Int) := IntWalk.i64_in _ (by omega)
      obtain ⟨w1, HW1, b1, x1⟩ := al1 wr (.cells #[.int .u8 (48 + (r : Int))] 5)
      have own1 := own_below' own b1
      have HB1 := Lib.hid (below_step HB.out b1)
      have src1 : Src 1 w1 (.slice (some ⟨wr.heap.size, 0, none⟩) 1 1) 1 [.int .u8 (48 + (r : Int))] := Src.of_own (own_of_block (n := 1) (cap := 1) (s := 1) (xs := [.int .u8 (48 + (r : Int))]) (base := 0) x1 (by omega) rfl (by omega) (by unfold maxLen; omega))
      clear x1 b1 own hr hq
      go_wp2_with (at_builtin; rw [← HW1.out]; refine wpList_appx rfl _ _ _ rfl Tryd.underlying130 infoByteD rfl (by omega) w.heap.size own1 HB1.out.size rfl src1 rfl (by simp [Value.oneCell']) (by unfold maxLen; omega) (by omega) ?_; intro V2 w2 own2 hg2 hnil2)
      have HO2 : Hid (w2.ownsRow w.heap.size 5 1 V2 (ds ++ [UInt8.ofNat (48 + r)]).length (Lib.byteCells (ds ++ [UInt8.ofNat (48 + r)]))) := by unfold Hid; rw [List.length_append, HLD.out, byteCells_snoc, hbv.out]; exact own2
      have HB2 := Lib.hid (grown_below HB1.out own1 (Nat.le_refl _) hg2)
      clear own1 own2 hg2 hnil2 src1
      go_roundw
      case rel => exact ⟨q, _, ds ++ [UInt8.ofNat (48 + r)], rfl, rfl, by have := hqk.out; omega, HO2, HB2, HDN⟩
      case measure => have := hqk.out; simp [intOf]; omega
end Go.Proofs.YtjakgeblmkdbpaaDoor
