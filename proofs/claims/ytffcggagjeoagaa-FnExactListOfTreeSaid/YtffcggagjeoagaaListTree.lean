/- ListOfTree on both sides. -/
import Derived.Test.YtffcggagjeoagaaNumTree
namespace Go.Proofs.Ytffcggagjeoagaa
open Go.RowKit
set_option linter.all false

theorem Items.grid {lo : Nat} {v : Value} {ts : List T} {us : List Value} {w : World} (h : Items lo v ts us w) : Grid lo w.heap.size 22 1 v (ts.map T.enc).length us 4 1 us (itsOf oneB (ts.map T.enc)) w :=
  ⟨by rw [List.length_map]; exact h.own, h.inn, fun k hk => (h.own.lt k hk).2⟩
theorem grid_nil (lo hi : Nat) (t e : TypeId) (s : Nat) (w : World) : Grid lo hi t 1 (.slice none 0 0) 0 [] e s [] [] w :=
  ⟨World.ownsRow_nil _ _ _ _, Inn.nil _ _ _ _ _, by simp [Value.ownBlock]⟩
theorem listOf_sum (x : T) : sumLen (x.spine.map T.enc) ≤ x.nodes := encs_sum x
theorem bndListOfTree0 (t : List Bool) (h : t.length ≤ 1048576) : (listOfTree t).1.length ≤ 1048576 ∧ sumLen (listOfTree t).1 ≤ 1048576 := by
  unfold listOfTree
  split
  · rename_i hv
    obtain ⟨h1, x, rfl⟩ := (isTree_iff t).1 hv
    rw [treeFor_enc]
    rw [T.length_enc] at h
    have := (spine_le x).1
    have := listOf_sum x
    unfold listOf
    split
    · exact ⟨by simp; omega, by simp only; omega⟩
    · simp [sumLen]
  · simp [sumLen]
theorem Items.mono {lo lo' : Nat} {v : Value} {ts : List T} {us : List Value} {w : World} (h : Items lo v ts us w) (hl : lo' ≤ lo) : Items lo' v ts us w :=
  ⟨own_base h.own hl, h.inn.len, fun j u it h1 h2 => own_base (h.inn.own j u it h1 h2) hl, h.inn.top, h.inn.apart⟩

set_option maxRecDepth 100000 in
theorem specListOfTree_any (b off n c : Nat) (t : List Bool) (w : World) (hs : Sl w b off (t.map .bool)) (hl : t.length = n) (hn : n ≤ 1048576) (hc : n ≤ c) :
    Calls Try.prog 23 #[.slice (some ⟨b, off, none⟩) n c] w fun e w' => ∃ v us, e = .returned (.tuple #[v, .int .i64 (listOfTree t).2]) ∧ Grid w.heap.size w'.heap.size 22 1 v (listOfTree t).1.length us 4 1 us (itsOf oneB (listOfTree t).1) w' ∧ Below w.heap.size w w' := by
  have HL := Lib.hid hl; clear hl
  rcases Bool.eq_false_or_eq_true (isTreeB t) with h | h
  rotate_left
  · have H := Lib.hid h; clear h
    have HE : Hid (listOfTree t = ([], 1)) := by unfold Hid listOfTree; rw [H.out]; rfl
    go_enter Try.func23, Try.ntmps23
    go_wp2_with fail
    refine (l21Is_is b off n c t false H.out _ hs HL.out (by omega)).mono ?_
    rintro e w' ⟨rfl, rfl⟩
    go_wp2_with fail
    go_ret2
    rw [HE.out]
    exact ⟨_, [], rfl, grid_nil _ _ _ _ _ _, Below.refl _ _⟩
  obtain ⟨h1, x, hx⟩ := (isTree_iff t).1 h
  have H := Lib.hid h; clear h
  subst hx
  have hnn : x.nodes ≤ 2000 := by rw [← T.length_enc]; exact h1
  have HN : Hid (x.nodes = n) := by have := HL.out; rw [T.length_enc] at this; exact this
  clear h1
  have HM : Hid (listOfTree x.enc = listOf x) := listOf_enc x hnn
  have hsp := (spine_le x).1
  obtain ⟨ls, hls⟩ : ∃ ls, ls = x.spine.length := ⟨_, rfl⟩
  have hls2 : ls ≤ 1000 := by omega
  have HLS : Hid (x.spine.length = ls) := hls.symm
  have hn2 : n ≤ 2000 := by have := HN.out; omega
  clear hls hsp
  by_cases h100 : ls ≤ 100
  · have h1 : ¬ (100 : Int) < (ls : Int) := by omega
    have HQ : Hid (listOf x = (x.spine.map T.enc, 0)) := by unfold Hid listOf; rw [if_pos (by rw [HLS.out]; exact h100)]
    go_enter Try.func23, Try.ntmps23
    go_wp2_with fail
    refine (l21Is_is b off n c x.enc true H.out _ hs HL.out (by omega)).mono ?_
    rintro e w' ⟨rfl, rfl⟩
    go_wp2_with fail
    refine (l21Items_any b off n c x _ hs HN.out hn2 hc).mono ?_
    rintro e w1 ⟨v1, us, rfl, hit, hb1⟩
    have hown := hit.own
    rw [HLS.out] at hown
    obtain ⟨A1, c1, rfl⟩ := own_form hown
    have HG := Lib.hid hit.grid
    clear hit hown
    go_wp2_with fail
    go_ret2
    rw [HM.out, HQ.out]
    exact ⟨_, us, rfl, HG.out, hb1⟩
  · have h1 : (100 : Int) < (ls : Int) := by omega
    have HQ : Hid (listOf x = ([], 2)) := by unfold Hid listOf; rw [if_neg (by rw [HLS.out]; exact h100)]
    go_enter Try.func23, Try.ntmps23
    go_wp2_with fail
    refine (l21Is_is b off n c x.enc true H.out _ hs HL.out (by omega)).mono ?_
    rintro e w' ⟨rfl, rfl⟩
    go_wp2_with fail
    refine (l21Items_any b off n c x _ hs HN.out hn2 hc).mono ?_
    rintro e w1 ⟨v1, us, rfl, hit, hb1⟩
    have hown := hit.own
    rw [HLS.out] at hown
    obtain ⟨A1, c1, rfl⟩ := own_form hown
    clear hit hown
    go_wp2_with fail
    go_ret2
    rw [HM.out, HQ.out]
    exact ⟨_, [], rfl, grid_nil _ _ _ _ _ _, hb1⟩

set_option maxRecDepth 100000 in
set_option maxHeartbeats 1000000 in
theorem implListOfTree_any (b off n c : Nat) (t : List Bool) (w : World) (hs : Sl w b off (t.map .bool)) (hl : t.length = n) (hn : n ≤ 1048576) (hc : n ≤ c) :
    Calls Try.prog 24 #[.slice (some ⟨b, off, none⟩) n c] w fun e w' => ∃ v us, e = .returned (.tuple #[v, .int .i64 (listOfTree t).2]) ∧ Grid w.heap.size w'.heap.size 22 1 v (listOfTree t).1.length us 4 1 us (itsOf oneB (listOfTree t).1) w' ∧ Below w.heap.size w w' := by
  have HL := Lib.hid hl; clear hl hc
  rcases Bool.eq_false_or_eq_true (isTreeB t) with h | h
  rotate_left
  · have H := Lib.hid h; clear h
    have HE : Hid (listOfTree t = ([], 1)) := by unfold Hid listOfTree; rw [H.out]; rfl
    go_enter Try.func24, Try.ntmps24
    go_wp2_with fail
    refine (isTree_is b off n c t false H.out _ hs HL.out (by omega)).mono ?_
    rintro e w' ⟨rfl, rfl⟩
    go_wp2_with fail
    go_ret2
    rw [HE.out]
    exact ⟨_, [], rfl, grid_nil _ _ _ _ _ _, Below.refl _ _⟩
  obtain ⟨h1, x, hx⟩ := (isTree_iff t).1 h
  have H := Lib.hid h; clear h
  subst hx
  have hnn : x.nodes ≤ 2000 := by rw [← T.length_enc]; exact h1
  have HN : Hid (x.nodes = n) := by have := HL.out; rw [T.length_enc] at this; exact this
  clear h1
  have HM : Hid (listOfTree x.enc = listOf x) := listOf_enc x hnn
  have hsp := (spine_le x).1
  obtain ⟨ls, hls⟩ : ∃ ls, ls = x.spine.length := ⟨_, rfl⟩
  have hls2 : ls ≤ 1000 := by omega
  have HLS : Hid (x.spine.length = ls) := hls.symm
  clear hls hsp
  by_cases h100 : ls ≤ 100
  rotate_left
  · have h1 : (100 : Int) < (ls : Int) := by omega
    have HQ : Hid (listOf x = ([], 2)) := by unfold Hid listOf; rw [if_neg (by rw [HLS.out]; exact h100)]
    go_enter Try.func24, Try.ntmps24
    go_wp2_with fail
    refine (isTree_is b off n c x.enc true H.out _ hs HL.out (by omega)).mono ?_
    rintro e w' ⟨rfl, rfl⟩
    go_wp2_with fail
    refine (treeOf_any b off n c x _ hs HN.out (by omega)).mono ?_
    rintro e w1 ⟨p, rfl, ht, hB⟩
    go_wp2_with fail
    refine (listOfTree_any x p w1 ht hnn).mono ?_
    rintro e w2 ⟨v2, ps, rfl, hown2, hpt, hb2⟩
    have hB2 := below_step hB hb2
    rw [HLS.out] at hown2
    obtain ⟨A2, c2, rfl⟩ := own_form hown2
    go_wp2_with fail
    go_ret2
    rw [HM.out, HQ.out]
    exact ⟨_, [], rfl, grid_nil _ _ _ _ _ _, hB2⟩
  have h1 : ¬ (100 : Int) < (ls : Int) := by omega
  have HQ : Hid (listOf x = (x.spine.map T.enc, 0)) := by unfold Hid listOf; rw [if_pos (by rw [HLS.out]; exact h100)]
  go_enter Try.func24, Try.ntmps24
  go_wp2_with fail
  refine (isTree_is b off n c x.enc true H.out _ hs HL.out (by omega)).mono ?_
  rintro e w' ⟨rfl, rfl⟩
  go_wp2_with fail
  refine (treeOf_any b off n c x _ hs HN.out (by omega)).mono ?_
  rintro e w1 ⟨p, rfl, ht, hB⟩
  go_wp2_with fail
  refine (listOfTree_any x p w1 ht hnn).mono ?_
  rintro e w2 ⟨v2, ps, rfl, hown2, hpt, hb2⟩
  have hB2 := below_step hB hb2
  rw [HLS.out] at hown2
  obtain ⟨A2, c2, rfl⟩ := own_form hown2
  have HPT := Lib.hid hpt
  have hlo := hb2.size
  clear ht hB hb2 hpt
  go_wp2
  go_loopw [5, 20] (fun v i wr => ∃ (k : Nat) (us : List Value), k ≤ ls ∧ i = .int .i64 k ∧ Items w2.heap.size v (x.spine.take k) us wr ∧ Below w2.heap.size w2 wr) (fun _ i _ => ls - (intOf i).toNat)
  case atStart => exact ⟨0, [], Nat.zero_le _, rfl, ⟨World.ownsRow_made _ #[] 0 (Nat.le_refl _) (by simp [maxLen]) rfl, Inn.nil _ _ _ _ _⟩, laid_below _ _⟩
  case round =>
    obtain ⟨k, us, hk, rfl, hit, hBr⟩ := hrel
    have hown0 := hit.own
    rw [List.length_take, HLS.out, Nat.min_eq_left hk] at hown0
    obtain ⟨A3, c3, rfl⟩ := own_form hown0
    by_cases hlt : k < ls
    · obtain ⟨a, HA⟩ := hget HLS hlt
      obtain ⟨q, hq⟩ : ∃ q, ps[k]? = some q := ⟨_, List.getElem?_eq_getElem (by have := HPT.out.1; have := HLS.out; omega)⟩
      have hta := ((HPT.out.2 k a q HA.out hq).mono hlo).below hBr
      have hta2 := hta.mono hBr.size
      obtain ⟨g, rfl, _, _⟩ := own_addr0 hown2 (by omega)
      have hca : wr.cell? ⟨g, k, none⟩ = some (.pointer q) := by
        rw [hBr.cell (p := ⟨g, k, none⟩) (hown2.lt g rfl).2, hown2.cellAt k (by omega)]
        simp [hq]
      have hna := (spine_le x).2 a (List.mem_of_getElem? HA.out)
      have hna2 : a.nodes ≤ 4194304 := by omega
      have hinn0 := hit.inn
      obtain ⟨m, hm⟩ : ∃ m, m = a.nodes := ⟨_, rfl⟩
      have HMM := Lib.hid hm
      clear hq hta hm hit
      go_wp2_with fail
      refine (list_any a q wr hta2 hna2).mono ?_
      rintro e w3 ⟨v3, rfl, hown3, hb3⟩
      rw [← HMM.out] at hown3
      obtain ⟨A4, c4, rfl⟩ := own_form hown3
      have hown4 := own_below' hown0 hb3
      have hinn1 := (hinn0.below hb3).snoc (it := (m, a.enc.map .bool)) hown3 (Nat.le_refl _) hBr.size (Nat.le_refl _) hb3.size
      have hB3 := below_step hBr hb3
      clear hown0 hinn0 hown3 hb3 hca hta2
      go_wp2_with (at_builtin; refine wpList_appg rfl _ _ _ rfl Try.underlying36 infoBoolSS' rfl (by omega) w2.heap.size w3 hown4 hB3.size rfl 1 #[.slice A4 m c4] rfl (laid_below _ _) (heap_alloc_new _ _) rfl (by simp [Value.oneCell']) (by omega) (by unfold maxLen; omega) (by omega) ?_; intro g4 cap w4 hown5 hg5; have hinn5 := Lib.hid ((hinn1.kept hown4 hg5 (by decide)).wide hg5.size); have hB5 := hB3.grown hg5 hB3.size (fun j hj => (hown4.lt j hj).1); clear hinn1 hown4 hg5 hB3)
      go_roundw
      case rel =>
        refine ⟨k + 1, us ++ [.slice A4 m c4], by omega, by go_num, ⟨?_, ?_⟩, hB5⟩
        · rw [List.length_take, HLS.out, Nat.min_eq_left (by omega)]; exact hown5
        · rw [List.take_add_one, HA.out]
          show Inn _ _ _ _ _ (bRows (x.spine.take k ++ [a])) _
          rw [bRows_snoc, ← HMM.out]; exact hinn5.out
      case measure => simp [intOf]; omega
    · obtain rfl : ls = k := by omega
      rw [List.take_of_length_le (by have := HLS.out; omega)] at hit
      have HG := Lib.hid ((hit.mono (lo' := w.heap.size) hB2.size).grid)
      clear hit hown0
      go_wp2
      go_ret2
      rw [HM.out, HQ.out]
      exact ⟨_, us, rfl, HG.out, below_step hB2 hBr⟩
end Go.Proofs.Ytffcggagjeoagaa
