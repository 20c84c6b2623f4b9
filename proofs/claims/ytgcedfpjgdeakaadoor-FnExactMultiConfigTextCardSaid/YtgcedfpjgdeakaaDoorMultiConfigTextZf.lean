/- The law FnExactMultiConfigText returns true for every input, and each argument reads afterwards as before: the proof, part 6. No conditions. -/
import Derived.Test.YtgcedfpjgdeakaaDoorMultiConfigTextZe
import Derived.StillTailTactics
import Derived.Lib.SlicesCompact
import Derived.Sort.Grow
import Derived.Lib.RowBridge
/- Valid configurations of machines with several tapes, by the program: ValidMultiConfig. -/
namespace Go.Proofs.YtgcedfpjgdeakaaDoor
open Go.RowKit
set_option linter.all false

theorem sizeTape_is (A : Option Addr) (n c : Nat) (w : World) : Calls Tryd.prog 57 #[.slice A n c] w fun e w' => e = .returned (.int .i64 n) ∧ w = w' := by
  go_enter Tryd.func57, Tryd.ntmps57
  go_wp2_with fail
  go_ret
  exact ⟨rfl, rfl⟩
set_option maxRecDepth 100000 in
theorem badTape_is (gm : Nat) (t s q : Int) (gr n c : Nat) (es : List EMultiRule) (g1 g2 l1 l2 : Nat) (x : DTape) (v : Bool) (hv : tpOk s x = v) (w : World) (hM : McF w gm gr t s q n c es) (hs1 : Sl w g1 0 (x.f0.map (.int .i64))) (hs2 : Sl w g2 0 (x.f1.map (.int .i64))) (hl1 : x.f0.length = l1) (hl2 : x.f1.length = l2) (hb1 : l1 ≤ 1048576) (hb2 : l2 ≤ 1048576) (hS : 2 ≤ s ∧ s ≤ 3) :
    Calls Tryd.prog 59 #[.agg #[.slice (some ⟨g1, 0, none⟩) l1 l1, .slice (some ⟨g2, 0, none⟩) l2 l2], .pointer (some ⟨gm, 0, none⟩)] w fun e w' => e = .returned (.bool (!v)) ∧ Below w.heap.size w w' := by
  obtain ⟨w1, HW1, B1, x1⟩ := al1 w (.cells #[.slice (some ⟨g1, 0, none⟩) l1 l1, .slice (some ⟨g2, 0, none⟩) l2 l2] 94)
  have d0 : w1.cell? ⟨w.heap.size, 0, none⟩ = some (.slice (some ⟨g1, 0, none⟩) l1 l1) := by rw [cell_of_heap x1]; rfl
  have d1 : w1.cell? ⟨w.heap.size, 1, none⟩ = some (.slice (some ⟨g2, 0, none⟩) l2 l2) := by rw [cell_of_heap x1]; rfl
  obtain ⟨m0, m1, m2, m3⟩ := (hM.below B1).cells
  have HV := Lib.hid (validTape_is t s q gr n c g1 g2 l1 l2 x v hv w1 (hs1.below' B1) (hs2.below' B1) hl1 hl2 hb1 hb2 hS)
  have HBW := Lib.hid B1
  clear hM hs1 hs2 hl1 hl2 hb1 hb2 hS hv x1 B1
  go_enter Tryd.func59, Tryd.ntmps59
  go_upto_region 1 with fail
  rw [← HW1.out]
  go_wp2_with (go_at_call 60; refine HV.out.mono ?_; rintro e w' ⟨rfl, bb⟩; replace bb := Lib.hid bb)
  go_ret
  exact ⟨rfl, below_step HBW.out bb.out⟩

set_option maxRecDepth 100000 in
set_option maxHeartbeats 4000000 in
theorem indexBadTape (gm : Nat) (t s q : Int) (gr n c : Nat) (es : List EMultiRule) (gt m ct : Nat) (ts : List ETape) (td : List DTape) (w : World) (hM : McF w gm gr t s q n c es) (hT : Sl w gt 0 (rows ETape.vs ts)) (hTc : RcsTape w ts) (htd : ts.map (·.d) = td) (htl : td.length = m) (htn : m ≤ 1048576) (htlens : lensT ts) (hS : 2 ≤ s ∧ s ≤ 3) :
    Calls Tryd.prog 85 #[.slice (some ⟨gt, 0, none⟩) m ct, .func (.func 59) #[] #[.pointer (some ⟨gm, 0, none⟩)]] w fun e w' => (∃ z : Int, e = .returned (.int .i64 z) ∧ (decide (0 ≤ z) = !(td.all (tpOk s)))) ∧ Below w.heap.size w w' := by
  have M0 := Lib.hid hM
  have T0 := Lib.hid hT
  have TC0 := Lib.hid hTc
  have HD := Lib.hid htd
  have HLD := Lib.hid htl
  have HLE : Hid (ts.length = m) := by unfold Hid; rw [← htl, ← htd, List.length_map]
  have HLENS := Lib.hid htlens
  have HSB := Lib.hid hS
  clear hM hT hTc htd htl htlens hS
  go_enter Tryd.func85, Tryd.ntmps85
  go_wp2_with fail
  go_loopw [8] (fun i wr => ∃ k : Nat, k ≤ m ∧ i = .int .i64 k ∧ Hid (Below w.heap.size w wr) ∧ Hid (∀ j x, j < k → td[j]? = some x → tpOk s x = true)) (fun i _ => m - (intOf i).toNat)
  case atStart => exact ⟨0, Nat.zero_le _, rfl, Below.refl _ _, by intro j x hj; omega⟩
  case round =>
    obtain ⟨k, hk, rfl, HB, HR⟩ := hrel
    by_cases hlt : k < m
    rotate_left
    · have HF : Hid (td.all (tpOk s) = true) := by
        unfold Hid
        rw [List.all_eq_true]
        intro x hx
        obtain ⟨j, hj⟩ := List.getElem?_of_mem hx
        exact HR.out j x (by have := HLD.out; have := (List.getElem?_eq_some_iff.1 hj).1; omega) hj
      go_wp2_with fail
      go_ret
      exact ⟨⟨_, rfl, by rw [HF.out]; rfl⟩, HB.out⟩
    obtain ⟨e, he⟩ : ∃ e, ts[k]? = some e := ⟨_, List.getElem?_eq_getElem (by have := HLE.out; omega)⟩
    have HE : Hid (td[k]? = some e.d) := by unfold Hid; rw [← HD.out, List.getElem?_map, he]; rfl
    have hem := List.mem_of_getElem? he
    obtain ⟨hb1, hb2⟩ := HLENS.out e hem
    obtain ⟨⟨g1, hu1, hs1⟩, ⟨g2, hu2, hs2⟩, -⟩ := (TC0.out.below HB.out).at hem
    obtain ⟨l1, hl1⟩ : ∃ l, e.d.f0.length = l := ⟨_, rfl⟩
    obtain ⟨l2, hl2⟩ : ∃ l, e.d.f1.length = l := ⟨_, rfl⟩
    rw [hl1] at hu1 hb1; rw [hl2] at hu2 hb2
    obtain ⟨c0, c1⟩ := tpC_of (T0.out.below' HB.out) he
    rw [hu1] at c0; rw [hu2] at c1
    have hkI : (k : Int) < (m : Int) := by omega
    have hk0 : (0 : Int) ≤ (k : Int) := by omega
    cases hb : tpOk s e.d with
    | true =>
      have HV := Lib.hid (badTape_is gm t s q gr n c es g1 g2 l1 l2 e.d true hb wr (M0.out.below HB.out) hs1 hs2 hl1 hl2 hb1 hb2 HSB.out)
      have HBB := Lib.hid hb
      clear he hem hb1 hb2 hu1 hu2 hs1 hs2 hl1 hl2 hb
      go_wp2_with (go_at_call 59; refine HV.out.mono ?_; rintro z w' ⟨rfl, bb⟩; replace bb := Lib.hid bb)
      go_roundw
      case rel => exact ⟨k + 1, by omega, by go_num, below_step HB.out bb.out, by
        intro j x hj hx
        by_cases ej : j = k
        · subst ej
          have h2 := HE.out
          rw [hx] at h2; injection h2 with h2; subst h2; exact HBB.out
        · exact HR.out j x (by omega) hx⟩
      case measure => simp [intOf]; omega
    | false =>
      have HV := Lib.hid (badTape_is gm t s q gr n c es g1 g2 l1 l2 e.d false hb wr (M0.out.below HB.out) hs1 hs2 hl1 hl2 hb1 hb2 HSB.out)
      have HF : Hid (td.all (tpOk s) = false) := by
        unfold Hid
        rw [Bool.eq_false_iff]; intro hall
        have := List.all_eq_true.1 hall e.d (List.mem_of_getElem? HE.out)
        rw [hb] at this; cases this
      clear he hem hb1 hb2 hu1 hu2 hs1 hs2 hl1 hl2 hb
      go_wp2_with (go_at_call 59; refine HV.out.mono ?_; rintro z w' ⟨rfl, bb⟩; replace bb := Lib.hid bb)
      go_ret
      exact ⟨⟨_, rfl, by rw [HF.out]; simp⟩, below_step HB.out bb.out⟩

theorem containsBadTape (gm : Nat) (t s q : Int) (gr n c : Nat) (es : List EMultiRule) (gt m ct : Nat) (ts : List ETape) (td : List DTape) (v : Bool) (hv : td.all (tpOk s) = v) (w : World) (hM : McF w gm gr t s q n c es) (hT : Sl w gt 0 (rows ETape.vs ts)) (hTc : RcsTape w ts) (htd : ts.map (·.d) = td) (htl : td.length = m) (htn : m ≤ 1048576) (htlens : lensT ts) (hS : 2 ≤ s ∧ s ≤ 3) :
    Calls Tryd.prog 58 #[.slice (some ⟨gt, 0, none⟩) m ct, .func (.func 59) #[] #[.pointer (some ⟨gm, 0, none⟩)]] w fun e w' => e = .returned (.bool (!v)) ∧ Below w.heap.size w w' := by
  have HI := Lib.hid (indexBadTape gm t s q gr n c es gt m ct ts td w hM hT hTc htd htl htn htlens hS)
  have HV := Lib.hid hv
  clear hM hT hTc htd htl htlens hS hv
  go_enter Tryd.func58, Tryd.ntmps58
  go_wp2_with (go_at_call 85; refine HI.out.mono ?_; rintro e w' ⟨⟨z, rfl, hz⟩, bb⟩; replace bb := Lib.hid bb; rw [HV.out] at hz; replace hz := Lib.hid hz)
  go_ret
  exact ⟨ret_bool hz.out, bb.out⟩

set_option maxRecDepth 100000 in
set_option maxHeartbeats 8000000 in
theorem validMultiConfig_is (t s q : Int) (gr n c : Nat) (es : List EMultiRule) (ds : List DMultiRule) (st : Int) (gt m ct : Nat) (ts : List ETape) (td : List DTape) (v : Bool) (hv : mcOk t s q ds st td = v) (w : World) (hR : Sl w gr 0 (rows EMultiRule.vs es)) (hRc : RcsMultiRule w es) (hd : es.map (·.d) = ds) (hl : ds.length = n) (hn : n ≤ 1048576) (hlens : lensOk es) (hT : Sl w gt 0 (rows ETape.vs ts)) (hTc : RcsTape w ts) (htd : ts.map (·.d) = td) (htl : td.length = m) (htn : m ≤ 1048576) (htlens : lensT ts) :
    Calls Tryd.prog 30 #[.agg #[.int .i64 t, .int .i64 s, .int .i64 q, .slice (some ⟨gr, 0, none⟩) n c], .agg #[.int .i64 st, .slice (some ⟨gt, 0, none⟩) m ct]] w fun e w' => e = .returned (.bool v) ∧ Below w.heap.size w w' := by
  obtain ⟨w1, HW1, B1, x1, y1⟩ := al2 w (.cells #[.int .i64 t, .int .i64 s, .int .i64 q, .slice (some ⟨gr, 0, none⟩) n c] 39) (.cells #[.int .i64 st, .slice (some ⟨gt, 0, none⟩) m ct] 43)
  have M1 : Hid (McF w1 w.heap.size gr t s q n c es) := ⟨x1, hR.below' B1, hRc.below B1⟩
  have C1 : Hid (CfF w1 (w.heap.size + 1) gt st m ct ts) := ⟨y1, hT.below' B1, hTc.below B1⟩
  have HVM : Hid (∀ W : World, Below w1.heap.size w1 W → Calls Tryd.prog 55 #[.agg #[.int .i64 t, .int .i64 s, .int .i64 q, .slice (some ⟨gr, 0, none⟩) n c]] W fun z w' => z = .returned (.bool (multiOk t s q ds)) ∧ Below W.heap.size W w') := fun W hW =>
    validMulti_is t s q gr n c es ds _ rfl W (M1.out.rs.below' hW) (M1.out.rc.below hW) hd hl hn hlens
  have HBW := Lib.hid B1
  have MX := M1.out
  have CX := C1.out
  have HBT := Below.refl w1.heap.size w1
  have BR := Below.refl w1.heap.size w1
  obtain ⟨m0, m1, m2, m3⟩ := MX.cells
  obtain ⟨c0, c1⟩ := CX.cells
  have HTD := Lib.hid htd; have HTL := Lib.hid htl; have HTLE := Lib.hid htlens
  have hmf : ∀ (fn : Fn) (first cap : Array Value) (w : World), (Instr.makeFunc fn first cap).run Tryd.prog w = .ok (.func fn first cap) w := fun _ _ _ _ => rfl
  clear hR hRc hd hl hlens hT hTc htd htl htlens x1 y1 B1
  cases h0 : multiOk t s q ds with
  | false =>
    have HF : Hid (v = false) := by unfold Hid; rw [← hv]; unfold mcOk; rw [h0]; rfl
    rw [h0] at HVM
    clear hv h0
    go_enter Tryd.func30, Tryd.ntmps30
    go_upto_region 1 with fail
    rw [← HW1.out]
    refine wp_region_held_drew (S := fun W => W.cell? ⟨w.heap.size, 0, none⟩ = some (.int .i64 t) ∧ W.cell? ⟨w.heap.size, 1, none⟩ = some (.int .i64 s) ∧ W.cell? ⟨w.heap.size, 2, none⟩ = some (.int .i64 q) ∧ W.cell? ⟨w.heap.size, 3, none⟩ = some (.slice (some ⟨gr, 0, none⟩) n c) ∧ W.cell? ⟨w.heap.size + 1, 0, none⟩ = some (.int .i64 st) ∧ W.cell? ⟨w.heap.size + 1, 1, none⟩ = some (.slice (some ⟨gt, 0, none⟩) m ct)) (by kernel_rfl) ?_ (fun hHeld => ?_)
    · (try dsimp only); (first | go_keep | exact ⟨m0, m1, m2, m3, c0, c1⟩)
    refine takeD (i := 0) (v := ?_) (d := some 5) rfl rfl (by kernel_rfl) (by kernel_rfl) (by kernel_rfl) (fun _ _ _ h => h) (Or.inl ⟨by kernel_rfl, ?hya0⟩) (by assumption) ?resta0
    case hya0 => first | (intro w hSw; (try dsimp only at hSw); go_simp; done) | (intro w hSw; (try dsimp only at hSw); go_simp; with_reducible rfl)
    (try simp only [Act.put, List.setIfInBounds_toArray, List.set_cons_zero, List.set_cons_succ])
    refine wpAnyH_ready (rs := [1]) (by kernel_rfl) (by simp) ?_
    refine AllReadyH.cons rfl (fun K hK => ?_) AllReadyH.nil
    go_simp
    (go_at_call 55; refine (HVM.out _ (by exact BR.drew)).mono ?_; rintro z x1 ⟨rfl, bb⟩; replace bb := below_drew_at bb; replace MX := MX.below bb; replace CX := CX.below bb; replace HBT := below_step HBT bb; clear bb m0 m1 m2 m3 c0 c1; obtain ⟨m0, m1, m2, m3⟩ := MX.cells; obtain ⟨c0, c1⟩ := CX.cells)
    (try go_wp2_with fail)
    refine hK.out _ _ ?_ (fun hHeld => ?_)
    · (try dsimp only); (first | go_keep | exact ⟨m0, m1, m2, m3, c0, c1⟩)
    clear hK K
    (try simp only [Act.put, List.setIfInBounds_toArray, List.set_cons_zero, List.set_cons_succ])
    refine takeD (i := 2) (v := ?_) (d := some 7) rfl rfl (by kernel_rfl) (by kernel_rfl) (by kernel_rfl) (fun _ _ _ h => h) (Or.inl ⟨by kernel_rfl, ?hya2⟩) (by assumption) ?resta2
    case hya2 => first | (intro w hSw; (try dsimp only at hSw); go_simp; done) | (intro w hSw; (try dsimp only at hSw); go_simp; with_reducible rfl)
    (try simp only [Act.put, List.setIfInBounds_toArray, List.set_cons_zero, List.set_cons_succ])
    refine takeD (i := 3) (v := ?_) (d := some 8) rfl rfl (by kernel_rfl) (by kernel_rfl) (by kernel_rfl) (fun _ _ _ h => h) (Or.inl ⟨by kernel_rfl, ?hya3⟩) (by assumption) ?resta3
    case hya3 => first | (intro w hSw; (try dsimp only at hSw); go_simp; done) | (intro w hSw; (try dsimp only at hSw); go_simp; with_reducible rfl)
    (try simp only [Act.put, List.setIfInBounds_toArray, List.set_cons_zero, List.set_cons_succ])
    refine takeD (i := 4) (v := undef) (d := some 9) rfl rfl (by kernel_rfl) (by kernel_rfl) (by kernel_rfl) (fun _ _ _ h => h) (Or.inr ⟨by kernel_rfl, rfl⟩) (by assumption) ?_
    (try simp only [Act.put, List.setIfInBounds_toArray, List.set_cons_zero, List.set_cons_succ])
    refine takeD (i := 5) (v := undef) (d := some 10) rfl rfl (by kernel_rfl) (by kernel_rfl) (by kernel_rfl) (fun _ _ _ h => h) (Or.inr ⟨by kernel_rfl, rfl⟩) (by assumption) ?_
    (try simp only [Act.put, List.setIfInBounds_toArray, List.set_cons_zero, List.set_cons_succ])
    refine takeD (i := 6) (v := undef) (d := some 11) rfl rfl (by kernel_rfl) (by kernel_rfl) (by kernel_rfl) (fun _ _ _ h => h) (Or.inr ⟨by kernel_rfl, rfl⟩) (by assumption) ?_
    (try simp only [Act.put, List.setIfInBounds_toArray, List.set_cons_zero, List.set_cons_succ])
    refine takeD (i := 7) (v := undef) (d := some 12) rfl rfl (by kernel_rfl) (by kernel_rfl) (by kernel_rfl) (fun _ _ _ h => h) (Or.inr ⟨by kernel_rfl, rfl⟩) (by assumption) ?_
    (try simp only [Act.put, List.setIfInBounds_toArray, List.set_cons_zero, List.set_cons_succ])
    refine takeD (i := 8) (v := undef) (d := some 13) rfl rfl (by kernel_rfl) (by kernel_rfl) (by kernel_rfl) (fun _ _ _ h => h) (Or.inr ⟨by kernel_rfl, rfl⟩) (by assumption) ?_
    (try simp only [Act.put, List.setIfInBounds_toArray, List.set_cons_zero, List.set_cons_succ])
    refine takeD (i := 9) (v := undef) (d := some 14) rfl rfl (by kernel_rfl) (by kernel_rfl) (by kernel_rfl) (fun _ _ _ h => h) (Or.inr ⟨by kernel_rfl, rfl⟩) (by assumption) ?_
    (try simp only [Act.put, List.setIfInBounds_toArray, List.set_cons_zero, List.set_cons_succ])
    refine takeD (i := 10) (v := undef) (d := some 15) rfl rfl (by kernel_rfl) (by kernel_rfl) (by kernel_rfl) (fun _ _ _ h => h) (Or.inr ⟨by kernel_rfl, rfl⟩) (by assumption) ?_
    (try simp only [Act.put, List.setIfInBounds_toArray, List.set_cons_zero, List.set_cons_succ])
    refine takeD (i := 11) (v := ?_) (d := some 16) rfl rfl (by kernel_rfl) (by kernel_rfl) (by kernel_rfl) (fun _ _ _ h => h) (Or.inl ⟨by kernel_rfl, ?hya11⟩) (by assumption) ?resta11
    case hya11 => first | (intro w hSw; (try dsimp only at hSw); go_simp; done) | (intro w hSw; (try dsimp only at hSw); go_simp; with_reducible rfl)
    (try simp only [Act.put, List.setIfInBounds_toArray, List.set_cons_zero, List.set_cons_succ])
    refine takeD (i := 12) (v := ?_) (d := some 17) rfl rfl (by kernel_rfl) (by kernel_rfl) (by kernel_rfl) (fun _ _ _ h => h) (Or.inl ⟨by kernel_rfl, ?hya12⟩) (by assumption) ?resta12
    case hya12 => first | (intro w hSw; (try dsimp only at hSw); go_simp; done) | (intro w hSw; (try dsimp only at hSw); go_simp; with_reducible rfl)
    (try simp only [Act.put, List.setIfInBounds_toArray, List.set_cons_zero, List.set_cons_succ])
    refine takeD (i := 13) (v := undef) (d := some 18) rfl rfl (by kernel_rfl) (by kernel_rfl) (by kernel_rfl) (fun _ _ _ h => h) (Or.inr ⟨by kernel_rfl, rfl⟩) (by assumption) ?_
    (try simp only [Act.put, List.setIfInBounds_toArray, List.set_cons_zero, List.set_cons_succ])
    refine takeD (i := 14) (v := undef) (d := some 19) rfl rfl (by kernel_rfl) (by kernel_rfl) (by kernel_rfl) (fun _ _ _ h => h) (Or.inr ⟨by kernel_rfl, rfl⟩) (by assumption) ?_
    (try simp only [Act.put, List.setIfInBounds_toArray, List.set_cons_zero, List.set_cons_succ])
    refine takeD (i := 15) (v := undef) (d := some 20) rfl rfl (by kernel_rfl) (by kernel_rfl) (by kernel_rfl) (fun _ _ _ h => h) (Or.inr ⟨by kernel_rfl, rfl⟩) (by assumption) ?_
    (try simp only [Act.put, List.setIfInBounds_toArray, List.set_cons_zero, List.set_cons_succ])
    refine takeD (i := 16) (v := undef) (d := some 21) rfl rfl (by kernel_rfl) (by kernel_rfl) (by kernel_rfl) (fun _ _ _ h => h) (Or.inr ⟨by kernel_rfl, rfl⟩) (by assumption) ?_
    (try simp only [Act.put, List.setIfInBounds_toArray, List.set_cons_zero, List.set_cons_succ])
    refine takeD (i := 17) (v := undef) (d := some 22) rfl rfl (by kernel_rfl) (by kernel_rfl) (by kernel_rfl) (fun _ _ _ h => h) (Or.inr ⟨by kernel_rfl, rfl⟩) (by assumption) ?_
    (try simp only [Act.put, List.setIfInBounds_toArray, List.set_cons_zero, List.set_cons_succ])
    refine takeD (i := 18) (v := undef) (d := some 23) rfl rfl (by kernel_rfl) (by kernel_rfl) (by kernel_rfl) (fun _ _ _ h => h) (Or.inr ⟨by kernel_rfl, rfl⟩) (by assumption) ?_
    (try simp only [Act.put, List.setIfInBounds_toArray, List.set_cons_zero, List.set_cons_succ])
    refine takeD (i := 19) (v := ?_) (d := some 24) rfl rfl (by kernel_rfl) (by kernel_rfl) (by kernel_rfl) (fun _ _ _ h => h) (Or.inl ⟨by kernel_rfl, ?hya19⟩) (by assumption) ?resta19
    case hya19 => first | (intro w hSw; (try dsimp only at hSw); go_simp; done) | (intro w hSw; (try dsimp only at hSw); go_simp; with_reducible rfl)
    (try simp only [Act.put, List.setIfInBounds_toArray, List.set_cons_zero, List.set_cons_succ])
    refine wpAnyH_done (by kernel_rfl) ?_ _
    have HBZ := Lib.hid (below_step HBW.out HBT)
    clear MX CX BR HBT m0 m1 m2 m3 c0 c1
    go_wp2_with fail
    go_ret
    exact ⟨ret_bool HF.out.symm, HBZ.out⟩
  | true =>
  rw [h0] at HVM
  have hmo := h0
  unfold multiOk at hmo
  simp only [Bool.and_eq_true] at hmo
  have HQB : Hid (1 ≤ q ∧ q ≤ 16) := (inB_iff _ _ _).1 hmo.2.2.1
  have HSB : Hid (2 ≤ s ∧ s ≤ 3) := (inB_iff _ _ _).1 hmo.2.1
  have hwq : IntKind.i64.wrap (q - 1) = q - 1 := IntWalk.i64_in _ (by have := HQB.out; omega)
  clear hmo
  cases h1 : inB st 0 (q - 1) with
  | false =>
    have HF : Hid (v = false) := by unfold Hid; rw [← hv]; unfold mcOk goodC; rw [h0, h1]; rfl
    have H1 := Lib.hid h1
    clear hv h0 h1
    go_enter Tryd.func30, Tryd.ntmps30
    go_upto_region 1 with fail
    rw [← HW1.out]
    refine wp_region_held_drew (S := fun W => W.cell? ⟨w.heap.size, 0, none⟩ = some (.int .i64 t) ∧ W.cell? ⟨w.heap.size, 1, none⟩ = some (.int .i64 s) ∧ W.cell? ⟨w.heap.size, 2, none⟩ = some (.int .i64 q) ∧ W.cell? ⟨w.heap.size, 3, none⟩ = some (.slice (some ⟨gr, 0, none⟩) n c) ∧ W.cell? ⟨w.heap.size + 1, 0, none⟩ = some (.int .i64 st) ∧ W.cell? ⟨w.heap.size + 1, 1, none⟩ = some (.slice (some ⟨gt, 0, none⟩) m ct)) (by kernel_rfl) ?_ (fun hHeld => ?_)
    · (try dsimp only); (first | go_keep | exact ⟨m0, m1, m2, m3, c0, c1⟩)
    refine takeD (i := 0) (v := ?_) (d := some 5) rfl rfl (by kernel_rfl) (by kernel_rfl) (by kernel_rfl) (fun _ _ _ h => h) (Or.inl ⟨by kernel_rfl, ?hyb0⟩) (by assumption) ?restb0
    case hyb0 => first | (intro w hSw; (try dsimp only at hSw); go_simp; done) | (intro w hSw; (try dsimp only at hSw); go_simp; with_reducible rfl)
    (try simp only [Act.put, List.setIfInBounds_toArray, List.set_cons_zero, List.set_cons_succ])
    refine wpAnyH_ready (rs := [1]) (by kernel_rfl) (by simp) ?_
    refine AllReadyH.cons rfl (fun K hK => ?_) AllReadyH.nil
    go_simp
    (go_at_call 55; refine (HVM.out _ (by exact BR.drew)).mono ?_; rintro z x1 ⟨rfl, bb⟩; replace bb := below_drew_at bb; replace MX := MX.below bb; replace CX := CX.below bb; replace HBT := below_step HBT bb; clear bb m0 m1 m2 m3 c0 c1; obtain ⟨m0, m1, m2, m3⟩ := MX.cells; obtain ⟨c0, c1⟩ := CX.cells)
    (try go_wp2_with fail)
    refine hK.out _ _ ?_ (fun hHeld => ?_)
    · (try dsimp only); (first | go_keep | exact ⟨m0, m1, m2, m3, c0, c1⟩)
    clear hK K
    (try simp only [Act.put, List.setIfInBounds_toArray, List.set_cons_zero, List.set_cons_succ])
    refine takeD (i := 2) (v := ?_) (d := some 7) rfl rfl (by kernel_rfl) (by kernel_rfl) (by kernel_rfl) (fun _ _ _ h => h) (Or.inl ⟨by kernel_rfl, ?hyb2⟩) (by assumption) ?restb2
    case hyb2 => first | (intro w hSw; (try dsimp only at hSw); go_simp; done) | (intro w hSw; (try dsimp only at hSw); go_simp; with_reducible rfl)
    (try simp only [Act.put, List.setIfInBounds_toArray, List.set_cons_zero, List.set_cons_succ])
    refine takeD (i := 3) (v := ?_) (d := some 8) rfl rfl (by kernel_rfl) (by kernel_rfl) (by kernel_rfl) (fun _ _ _ h => h) (Or.inl ⟨by kernel_rfl, ?hyb3⟩) (by assumption) ?restb3
    case hyb3 => first | (intro w hSw; (try dsimp only at hSw); go_simp; done) | (intro w hSw; (try dsimp only at hSw); go_simp; with_reducible rfl)
    (try simp only [Act.put, List.setIfInBounds_toArray, List.set_cons_zero, List.set_cons_succ])
    refine takeD (i := 4) (v := ?_) (d := some 9) rfl rfl (by kernel_rfl) (by kernel_rfl) (by kernel_rfl) (fun _ _ _ h => h) (Or.inl ⟨by kernel_rfl, ?hyb4⟩) (by assumption) ?restb4
    case hyb4 => first | (intro w hSw; (try dsimp only at hSw); go_simp; done) | (intro w hSw; (try dsimp only at hSw); go_simp; with_reducible rfl)
    (try simp only [Act.put, List.setIfInBounds_toArray, List.set_cons_zero, List.set_cons_succ])
    refine takeD (i := 5) (v := ?_) (d := some 10) rfl rfl (by kernel_rfl) (by kernel_rfl) (by kernel_rfl) (fun _ _ _ h => h) (Or.inl ⟨by kernel_rfl, ?hyb5⟩) (by assumption) ?restb5
    case hyb5 => first | (intro w hSw; (try dsimp only at hSw); go_simp; done) | (intro w hSw; (try dsimp only at hSw); go_simp; with_reducible rfl)
    (try simp only [Act.put, List.setIfInBounds_toArray, List.set_cons_zero, List.set_cons_succ])
    refine takeD (i := 6) (v := ?_) (d := some 11) rfl rfl (by kernel_rfl) (by kernel_rfl) (by kernel_rfl) (fun _ _ _ h => h) (Or.inl ⟨by kernel_rfl, ?hyb6⟩) (by assumption) ?restb6
    case hyb6 => first | (intro w hSw; (try dsimp only at hSw); go_simp; done) | (intro w hSw; (try dsimp only at hSw); go_simp; with_reducible rfl)
    (try simp only [Act.put, List.setIfInBounds_toArray, List.set_cons_zero, List.set_cons_succ])
    refine takeD (i := 7) (v := ?_) (d := some 12) rfl rfl (by kernel_rfl) (by kernel_rfl) (by kernel_rfl) (fun _ _ _ h => h) (Or.inl ⟨by kernel_rfl, ?hyb7⟩) (by assumption) ?restb7
    case hyb7 => first | (intro w hSw; (try dsimp only at hSw); go_simp; done) | (intro w hSw; (try dsimp only at hSw); go_simp; with_reducible rfl)
    (try simp only [Act.put, List.setIfInBounds_toArray, List.set_cons_zero, List.set_cons_succ])
    refine takeD (i := 8) (v := ?_) (d := some 13) rfl rfl (by kernel_rfl) (by kernel_rfl) (by kernel_rfl) (fun _ _ _ h => h) (Or.inl ⟨by kernel_rfl, ?hyb8⟩) (by assumption) ?restb8
    case hyb8 => first | (intro w hSw; (try dsimp only at hSw); go_simp; done) | (intro w hSw; (try dsimp only at hSw); go_simp; with_reducible rfl)
    (try simp only [Act.put, List.setIfInBounds_toArray, List.set_cons_zero, List.set_cons_succ])
    refine wpAnyH_ready (rs := [9]) (by kernel_rfl) (by simp) ?_
    refine AllReadyH.cons rfl (fun K hK => ?_) AllReadyH.nil
    go_simp
    (go_at_call 56; refine (within_is st 0 (q - 1) false H1.out _).mono ?_; rintro z x2 ⟨rfl, rfl⟩)
    (try go_wp2_with fail)
    refine hK.out _ _ ?_ (fun hHeld => ?_)
    · (try dsimp only); (first | go_keep | exact ⟨m0, m1, m2, m3, c0, c1⟩)
    clear hK K
    (try simp only [Act.put, List.setIfInBounds_toArray, List.set_cons_zero, List.set_cons_succ])
    refine takeD (i := 10) (v := ?_) (d := some 15) rfl rfl (by kernel_rfl) (by kernel_rfl) (by kernel_rfl) (fun _ _ _ h => h) (Or.inl ⟨by kernel_rfl, ?hyb10⟩) (by assumption) ?restb10
    case hyb10 => first | (intro w hSw; (try dsimp only at hSw); go_simp; done) | (intro w hSw; (try dsimp only at hSw); go_simp; with_reducible rfl)
    (try simp only [Act.put, List.setIfInBounds_toArray, List.set_cons_zero, List.set_cons_succ])
    refine takeD (i := 11) (v := ?_) (d := some 16) rfl rfl (by kernel_rfl) (by kernel_rfl) (by kernel_rfl) (fun _ _ _ h => h) (Or.inl ⟨by kernel_rfl, ?hyb11⟩) (by assumption) ?restb11
    case hyb11 => first | (intro w hSw; (try dsimp only at hSw); go_simp; done) | (intro w hSw; (try dsimp only at hSw); go_simp; with_reducible rfl)
    (try simp only [Act.put, List.setIfInBounds_toArray, List.set_cons_zero, List.set_cons_succ])
    refine takeD (i := 12) (v := ?_) (d := some 17) rfl rfl (by kernel_rfl) (by kernel_rfl) (by kernel_rfl) (fun _ _ _ h => h) (Or.inl ⟨by kernel_rfl, ?hyb12⟩) (by assumption) ?restb12
    case hyb12 => first | (intro w hSw; (try dsimp only at hSw); go_simp; done) | (intro w hSw; (try dsimp only at hSw); go_simp; with_reducible rfl)
    (try simp only [Act.put, List.setIfInBounds_toArray, List.set_cons_zero, List.set_cons_succ])
    refine takeD (i := 13) (v := undef) (d := some 18) rfl rfl (by kernel_rfl) (by kernel_rfl) (by kernel_rfl) (fun _ _ _ h => h) (Or.inr ⟨by kernel_rfl, rfl⟩) (by assumption) ?_
    (try simp only [Act.put, List.setIfInBounds_toArray, List.set_cons_zero, List.set_cons_succ])
    refine takeD (i := 14) (v := undef) (d := some 19) rfl rfl (by kernel_rfl) (by kernel_rfl) (by kernel_rfl) (fun _ _ _ h => h) (Or.inr ⟨by kernel_rfl, rfl⟩) (by assumption) ?_
    (try simp only [Act.put, List.setIfInBounds_toArray, List.set_cons_zero, List.set_cons_succ])
    refine takeD (i := 15) (v := undef) (d := some 20) rfl rfl (by kernel_rfl) (by kernel_rfl) (by kernel_rfl) (fun _ _ _ h => h) (Or.inr ⟨by kernel_rfl, rfl⟩) (by assumption) ?_
    (try simp only [Act.put, List.setIfInBounds_toArray, List.set_cons_zero, List.set_cons_succ])
    refine takeD (i := 16) (v := undef) (d := some 21) rfl rfl (by kernel_rfl) (by kernel_rfl) (by kernel_rfl) (fun _ _ _ h => h) (Or.inr ⟨by kernel_rfl, rfl⟩) (by assumption) ?_
    (try simp only [Act.put, List.setIfInBounds_toArray, List.set_cons_zero, List.set_cons_succ])
    refine takeD (i := 17) (v := undef) (d := some 22) rfl rfl (by kernel_rfl) (by kernel_rfl) (by kernel_rfl) (fun _ _ _ h => h) (Or.inr ⟨by kernel_rfl, rfl⟩) (by assumption) ?_
    (try simp only [Act.put, List.setIfInBounds_toArray, List.set_cons_zero, List.set_cons_succ])
    refine takeD (i := 18) (v := undef) (d := some 23) rfl rfl (by kernel_rfl) (by kernel_rfl) (by kernel_rfl) (fun _ _ _ h => h) (Or.inr ⟨by kernel_rfl, rfl⟩) (by assumption) ?_
    (try simp only [Act.put, List.setIfInBounds_toArray, List.set_cons_zero, List.set_cons_succ])
    refine takeD (i := 19) (v := ?_) (d := some 24) rfl rfl (by kernel_rfl) (by kernel_rfl) (by kernel_rfl) (fun _ _ _ h => h) (Or.inl ⟨by kernel_rfl, ?hyb19⟩) (by assumption) ?restb19
    case hyb19 => first | (intro w hSw; (try dsimp only at hSw); go_simp; done) | (intro w hSw; (try dsimp only at hSw); go_simp; with_reducible rfl)
    (try simp only [Act.put, List.setIfInBounds_toArray, List.set_cons_zero, List.set_cons_succ])
    refine wpAnyH_done (by kernel_rfl) ?_ _
    have HBZ := Lib.hid (below_step HBW.out HBT)
    clear MX CX BR HBT m0 m1 m2 m3 c0 c1
    go_wp2_with fail
    go_ret
    exact ⟨ret_bool HF.out.symm, HBZ.out⟩
  | true =>
  have H1 := Lib.hid h1
  by_cases hmt : (m : Int) = t
  rotate_left
  · have HF : Hid (v = false) := by unfold Hid; rw [← hv]; unfold mcOk goodC; rw [h0, h1, HTL.out, decide_eq_false hmt]; rfl
    have hne : ((m : Int) != t) = true := by simpa using hmt
    clear hv h0 h1 hmt
    go_enter Tryd.func30, Tryd.ntmps30
    go_upto_region 1 with fail
    rw [← HW1.out]
    refine wp_region_held_drew (S := fun W => W.cell? ⟨w.heap.size, 0, none⟩ = some (.int .i64 t) ∧ W.cell? ⟨w.heap.size, 1, none⟩ = some (.int .i64 s) ∧ W.cell? ⟨w.heap.size, 2, none⟩ = some (.int .i64 q) ∧ W.cell? ⟨w.heap.size, 3, none⟩ = some (.slice (some ⟨gr, 0, none⟩) n c) ∧ W.cell? ⟨w.heap.size + 1, 0, none⟩ = some (.int .i64 st) ∧ W.cell? ⟨w.heap.size + 1, 1, none⟩ = some (.slice (some ⟨gt, 0, none⟩) m ct)) (by kernel_rfl) ?_ (fun hHeld => ?_)
    · (try dsimp only); (first | go_keep | exact ⟨m0, m1, m2, m3, c0, c1⟩)
    refine takeD (i := 0) (v := ?_) (d := some 5) rfl rfl (by kernel_rfl) (by kernel_rfl) (by kernel_rfl) (fun _ _ _ h => h) (Or.inl ⟨by kernel_rfl, ?hyc0⟩) (by assumption) ?restc0
    case hyc0 => first | (intro w hSw; (try dsimp only at hSw); go_simp; done) | (intro w hSw; (try dsimp only at hSw); go_simp; with_reducible rfl)
    (try simp only [Act.put, List.setIfInBounds_toArray, List.set_cons_zero, List.set_cons_succ])
    refine wpAnyH_ready (rs := [1]) (by kernel_rfl) (by simp) ?_
    refine AllReadyH.cons rfl (fun K hK => ?_) AllReadyH.nil
    go_simp
    (go_at_call 55; refine (HVM.out _ (by exact BR.drew)).mono ?_; rintro z x1 ⟨rfl, bb⟩; replace bb := below_drew_at bb; replace MX := MX.below bb; replace CX := CX.below bb; replace HBT := below_step HBT bb; clear bb m0 m1 m2 m3 c0 c1; obtain ⟨m0, m1, m2, m3⟩ := MX.cells; obtain ⟨c0, c1⟩ := CX.cells)
    (try go_wp2_with fail)
    refine hK.out _ _ ?_ (fun hHeld => ?_)
    · (try dsimp only); (first | go_keep | exact ⟨m0, m1, m2, m3, c0, c1⟩)
    clear hK K
    (try simp only [Act.put, List.setIfInBounds_toArray, List.set_cons_zero, List.set_cons_succ])
    refine takeD (i := 2) (v := ?_) (d := some 7) rfl rfl (by kernel_rfl) (by kernel_rfl) (by kernel_rfl) (fun _ _ _ h => h) (Or.inl ⟨by kernel_rfl, ?hyc2⟩) (by assumption) ?restc2
    case hyc2 => first | (intro w hSw; (try dsimp only at hSw); go_simp; done) | (intro w hSw; (try dsimp only at hSw); go_simp; with_reducible rfl)
    (try simp only [Act.put, List.setIfInBounds_toArray, List.set_cons_zero, List.set_cons_succ])
    refine takeD (i := 3) (v := ?_) (d := some 8) rfl rfl (by kernel_rfl) (by kernel_rfl) (by kernel_rfl) (fun _ _ _ h => h) (Or.inl ⟨by kernel_rfl, ?hyc3⟩) (by assumption) ?restc3
    case hyc3 => first | (intro w hSw; (try dsimp only at hSw); go_simp; done) | (intro w hSw; (try dsimp only at hSw); go_simp; with_reducible rfl)
    (try simp only [Act.put, List.setIfInBounds_toArray, List.set_cons_zero, List.set_cons_succ])
    refine takeD (i := 4) (v := ?_) (d := some 9) rfl rfl (by kernel_rfl) (by kernel_rfl) (by kernel_rfl) (fun _ _ _ h => h) (Or.inl ⟨by kernel_rfl, ?hyc4⟩) (by assumption) ?restc4
    case hyc4 => first | (intro w hSw; (try dsimp only at hSw); go_simp; done) | (intro w hSw; (try dsimp only at hSw); go_simp; with_reducible rfl)
    (try simp only [Act.put, List.setIfInBounds_toArray, List.set_cons_zero, List.set_cons_succ])
    refine takeD (i := 5) (v := ?_) (d := some 10) rfl rfl (by kernel_rfl) (by kernel_rfl) (by kernel_rfl) (fun _ _ _ h => h) (Or.inl ⟨by kernel_rfl, ?hyc5⟩) (by assumption) ?restc5
    case hyc5 => first | (intro w hSw; (try dsimp only at hSw); go_simp; done) | (intro w hSw; (try dsimp only at hSw); go_simp; with_reducible rfl)
    (try simp only [Act.put, List.setIfInBounds_toArray, List.set_cons_zero, List.set_cons_succ])
    refine takeD (i := 6) (v := ?_) (d := some 11) rfl rfl (by kernel_rfl) (by kernel_rfl) (by kernel_rfl) (fun _ _ _ h => h) (Or.inl ⟨by kernel_rfl, ?hyc6⟩) (by assumption) ?restc6
    case hyc6 => first | (intro w hSw; (try dsimp only at hSw); go_simp; done) | (intro w hSw; (try dsimp only at hSw); go_simp; with_reducible rfl)
    (try simp only [Act.put, List.setIfInBounds_toArray, List.set_cons_zero, List.set_cons_succ])
    refine takeD (i := 7) (v := ?_) (d := some 12) rfl rfl (by kernel_rfl) (by kernel_rfl) (by kernel_rfl) (fun _ _ _ h => h) (Or.inl ⟨by kernel_rfl, ?hyc7⟩) (by assumption) ?restc7
    case hyc7 => first | (intro w hSw; (try dsimp only at hSw); go_simp; done) | (intro w hSw; (try dsimp only at hSw); go_simp; with_reducible rfl)
    (try simp only [Act.put, List.setIfInBounds_toArray, List.set_cons_zero, List.set_cons_succ])
    refine takeD (i := 8) (v := ?_) (d := some 13) rfl rfl (by kernel_rfl) (by kernel_rfl) (by kernel_rfl) (fun _ _ _ h => h) (Or.inl ⟨by kernel_rfl, ?hyc8⟩) (by assumption) ?restc8
    case hyc8 => first | (intro w hSw; (try dsimp only at hSw); go_simp; done) | (intro w hSw; (try dsimp only at hSw); go_simp; with_reducible rfl)
    (try simp only [Act.put, List.setIfInBounds_toArray, List.set_cons_zero, List.set_cons_succ])
    refine wpAnyH_ready (rs := [9]) (by kernel_rfl) (by simp) ?_
    refine AllReadyH.cons rfl (fun K hK => ?_) AllReadyH.nil
    go_simp
    (go_at_call 56; refine (within_is st 0 (q - 1) true H1.out _).mono ?_; rintro z x2 ⟨rfl, rfl⟩)
    (try go_wp2_with fail)
    refine hK.out _ _ ?_ (fun hHeld => ?_)
    · (try dsimp only); (first | go_keep | exact ⟨m0, m1, m2, m3, c0, c1⟩)
    clear hK K
    (try simp only [Act.put, List.setIfInBounds_toArray, List.set_cons_zero, List.set_cons_succ])
    refine takeD (i := 10) (v := ?_) (d := some 15) rfl rfl (by kernel_rfl) (by kernel_rfl) (by kernel_rfl) (fun _ _ _ h => h) (Or.inl ⟨by kernel_rfl, ?hyc10⟩) (by assumption) ?restc10
    case hyc10 => first | (intro w hSw; (try dsimp only at hSw); go_simp; done) | (intro w hSw; (try dsimp only at hSw); go_simp; with_reducible rfl)
    (try simp only [Act.put, List.setIfInBounds_toArray, List.set_cons_zero, List.set_cons_succ])
    refine takeD (i := 11) (v := ?_) (d := some 16) rfl rfl (by kernel_rfl) (by kernel_rfl) (by kernel_rfl) (fun _ _ _ h => h) (Or.inl ⟨by kernel_rfl, ?hyc11⟩) (by assumption) ?restc11
    case hyc11 => first | (intro w hSw; (try dsimp only at hSw); go_simp; done) | (intro w hSw; (try dsimp only at hSw); go_simp; with_reducible rfl)
    (try simp only [Act.put, List.setIfInBounds_toArray, List.set_cons_zero, List.set_cons_succ])
    refine takeD (i := 12) (v := ?_) (d := some 17) rfl rfl (by kernel_rfl) (by kernel_rfl) (by kernel_rfl) (fun _ _ _ h => h) (Or.inl ⟨by kernel_rfl, ?hyc12⟩) (by assumption) ?restc12
    case hyc12 => first | (intro w hSw; (try dsimp only at hSw); go_simp; done) | (intro w hSw; (try dsimp only at hSw); go_simp; with_reducible rfl)
    (try simp only [Act.put, List.setIfInBounds_toArray, List.set_cons_zero, List.set_cons_succ])
    refine takeD (i := 13) (v := ?_) (d := some 18) rfl rfl (by kernel_rfl) (by kernel_rfl) (by kernel_rfl) (fun _ _ _ h => h) (Or.inl ⟨by kernel_rfl, ?hyc13⟩) (by assumption) ?restc13
    case hyc13 => first | (intro w hSw; (try dsimp only at hSw); go_simp; done) | (intro w hSw; (try dsimp only at hSw); go_simp; with_reducible rfl)
    (try simp only [Act.put, List.setIfInBounds_toArray, List.set_cons_zero, List.set_cons_succ])
    refine takeD (i := 14) (v := ?_) (d := some 19) rfl rfl (by kernel_rfl) (by kernel_rfl) (by kernel_rfl) (fun _ _ _ h => h) (Or.inl ⟨by kernel_rfl, ?hyc14⟩) (by assumption) ?restc14
    case hyc14 => first | (intro w hSw; (try dsimp only at hSw); go_simp; done) | (intro w hSw; (try dsimp only at hSw); go_simp; with_reducible rfl)
    (try simp only [Act.put, List.setIfInBounds_toArray, List.set_cons_zero, List.set_cons_succ])
    refine takeD (i := 16) (v := ?_) (d := some 21) rfl rfl (by kernel_rfl) (by kernel_rfl) (by kernel_rfl) (fun _ _ _ h => h) (Or.inl ⟨by kernel_rfl, ?hyc16⟩) (by assumption) ?restc16
    case hyc16 => first | (intro w hSw; (try dsimp only at hSw); go_simp; done) | (intro w hSw; (try dsimp only at hSw); go_simp; with_reducible rfl)
    (try simp only [Act.put, List.setIfInBounds_toArray, List.set_cons_zero, List.set_cons_succ])
    refine takeD (i := 17) (v := ?_) (d := some 22) rfl rfl (by kernel_rfl) (by kernel_rfl) (by kernel_rfl) (fun _ _ _ h => h) (Or.inl ⟨by kernel_rfl, ?hyc17⟩) (by assumption) ?restc17
    case hyc17 => first | (intro w hSw; (try dsimp only at hSw); go_simp; done) | (intro w hSw; (try dsimp only at hSw); go_simp; with_reducible rfl)
    (try simp only [Act.put, List.setIfInBounds_toArray, List.set_cons_zero, List.set_cons_succ])
    refine wpAnyH_ready (rs := [15]) (by kernel_rfl) (by simp) ?_
    refine AllReadyH.cons rfl (fun K hK => ?_) AllReadyH.nil
    go_simp
    (go_at_call 57; refine (sizeTape_is _ m ct _).mono ?_; rintro z x3 ⟨rfl, rfl⟩)
    (try go_wp2_with fail)
    refine hK.out _ _ ?_ (fun hHeld => ?_)
    · (try dsimp only); (first | go_keep | exact ⟨m0, m1, m2, m3, c0, c1⟩)
    clear hK K
    (try simp only [Act.put, List.setIfInBounds_toArray, List.set_cons_zero, List.set_cons_succ])
    refine takeD (i := 18) (v := ?_) (d := some 23) rfl rfl (by kernel_rfl) (by kernel_rfl) (by kernel_rfl) (fun _ _ _ h => h) (Or.inl ⟨by kernel_rfl, ?hyc18⟩) (by assumption) ?restc18
    case hyc18 => first | (intro w hSw; (try dsimp only at hSw); go_simp; done) | (intro w hSw; (try dsimp only at hSw); go_simp; with_reducible rfl)
    (try simp only [Act.put, List.setIfInBounds_toArray, List.set_cons_zero, List.set_cons_succ])
    refine takeD (i := 19) (v := ?_) (d := some 24) rfl rfl (by kernel_rfl) (by kernel_rfl) (by kernel_rfl) (fun _ _ _ h => h) (Or.inl ⟨by kernel_rfl, ?hyc19⟩) (by assumption) ?restc19
    case hyc19 => first | (intro w hSw; (try dsimp only at hSw); go_simp; done) | (intro w hSw; (try dsimp only at hSw); go_simp; with_reducible rfl)
    (try simp only [Act.put, List.setIfInBounds_toArray, List.set_cons_zero, List.set_cons_succ])
    refine wpAnyH_done (by kernel_rfl) ?_ _
    have HBZ := Lib.hid (below_step HBW.out HBT)
    clear MX CX BR HBT m0 m1 m2 m3 c0 c1
    go_wp2_with fail
    go_ret
    exact ⟨ret_bool HF.out.symm, HBZ.out⟩
  · have HF : Hid (v = td.all (tpOk s)) := by unfold Hid; rw [← hv]; unfold mcOk goodC; rw [h0, h1, HTL.out, decide_eq_true hmt]; rfl
    have hne : ((m : Int) != t) = false := by simpa using hmt
    clear hv h0 h1 hmt
    go_enter Tryd.func30, Tryd.ntmps30
    go_upto_region 1 with fail
    rw [← HW1.out]
    refine wp_region_held_drew (S := fun W => W.cell? ⟨w.heap.size, 0, none⟩ = some (.int .i64 t) ∧ W.cell? ⟨w.heap.size, 1, none⟩ = some (.int .i64 s) ∧ W.cell? ⟨w.heap.size, 2, none⟩ = some (.int .i64 q) ∧ W.cell? ⟨w.heap.size, 3, none⟩ = some (.slice (some ⟨gr, 0, none⟩) n c) ∧ W.cell? ⟨w.heap.size + 1, 0, none⟩ = some (.int .i64 st) ∧ W.cell? ⟨w.heap.size + 1, 1, none⟩ = some (.slice (some ⟨gt, 0, none⟩) m ct)) (by kernel_rfl) ?_ (fun hHeld => ?_)
    · (try dsimp only); (first | go_keep | exact ⟨m0, m1, m2, m3, c0, c1⟩)
    refine takeD (i := 0) (v := ?_) (d := some 5) rfl rfl (by kernel_rfl) (by kernel_rfl) (by kernel_rfl) (fun _ _ _ h => h) (Or.inl ⟨by kernel_rfl, ?hyd0⟩) (by assumption) ?restd0
    case hyd0 => first | (intro w hSw; (try dsimp only at hSw); go_simp; done) | (intro w hSw; (try dsimp only at hSw); go_simp; with_reducible rfl)
    (try simp only [Act.put, List.setIfInBounds_toArray, List.set_cons_zero, List.set_cons_succ])
    refine wpAnyH_ready (rs := [1]) (by kernel_rfl) (by simp) ?_
    refine AllReadyH.cons rfl (fun K hK => ?_) AllReadyH.nil
    go_simp
    (go_at_call 55; refine (HVM.out _ (by exact BR.drew)).mono ?_; rintro z x1 ⟨rfl, bb⟩; replace bb := below_drew_at bb; replace MX := MX.below bb; replace CX := CX.below bb; replace HBT := below_step HBT bb; clear bb m0 m1 m2 m3 c0 c1; obtain ⟨m0, m1, m2, m3⟩ := MX.cells; obtain ⟨c0, c1⟩ := CX.cells)
    (try go_wp2_with fail)
    refine hK.out _ _ ?_ (fun hHeld => ?_)
    · (try dsimp only); (first | go_keep | exact ⟨m0, m1, m2, m3, c0, c1⟩)
    clear hK K
    (try simp only [Act.put, List.setIfInBounds_toArray, List.set_cons_zero, List.set_cons_succ])
    refine takeD (i := 2) (v := ?_) (d := some 7) rfl rfl (by kernel_rfl) (by kernel_rfl) (by kernel_rfl) (fun _ _ _ h => h) (Or.inl ⟨by kernel_rfl, ?hyd2⟩) (by assumption) ?restd2
    case hyd2 => first | (intro w hSw; (try dsimp only at hSw); go_simp; done) | (intro w hSw; (try dsimp only at hSw); go_simp; with_reducible rfl)
    (try simp only [Act.put, List.setIfInBounds_toArray, List.set_cons_zero, List.set_cons_succ])
    refine takeD (i := 3) (v := ?_) (d := some 8) rfl rfl (by kernel_rfl) (by kernel_rfl) (by kernel_rfl) (fun _ _ _ h => h) (Or.inl ⟨by kernel_rfl, ?hyd3⟩) (by assumption) ?restd3
    case hyd3 => first | (intro w hSw; (try dsimp only at hSw); go_simp; done) | (intro w hSw; (try dsimp only at hSw); go_simp; with_reducible rfl)
    (try simp only [Act.put, List.setIfInBounds_toArray, List.set_cons_zero, List.set_cons_succ])
    refine takeD (i := 4) (v := ?_) (d := some 9) rfl rfl (by kernel_rfl) (by kernel_rfl) (by kernel_rfl) (fun _ _ _ h => h) (Or.inl ⟨by kernel_rfl, ?hyd4⟩) (by assumption) ?restd4
    case hyd4 => first | (intro w hSw; (try dsimp only at hSw); go_simp; done) | (intro w hSw; (try dsimp only at hSw); go_simp; with_reducible rfl)
    (try simp only [Act.put, List.setIfInBounds_toArray, List.set_cons_zero, List.set_cons_succ])
    refine takeD (i := 5) (v := ?_) (d := some 10) rfl rfl (by kernel_rfl) (by kernel_rfl) (by kernel_rfl) (fun _ _ _ h => h) (Or.inl ⟨by kernel_rfl, ?hyd5⟩) (by assumption) ?restd5
    case hyd5 => first | (intro w hSw; (try dsimp only at hSw); go_simp; done) | (intro w hSw; (try dsimp only at hSw); go_simp; with_reducible rfl)
    (try simp only [Act.put, List.setIfInBounds_toArray, List.set_cons_zero, List.set_cons_succ])
    refine takeD (i := 6) (v := ?_) (d := some 11) rfl rfl (by kernel_rfl) (by kernel_rfl) (by kernel_rfl) (fun _ _ _ h => h) (Or.inl ⟨by kernel_rfl, ?hyd6⟩) (by assumption) ?restd6
    case hyd6 => first | (intro w hSw; (try dsimp only at hSw); go_simp; done) | (intro w hSw; (try dsimp only at hSw); go_simp; with_reducible rfl)
    (try simp only [Act.put, List.setIfInBounds_toArray, List.set_cons_zero, List.set_cons_succ])
    refine takeD (i := 7) (v := ?_) (d := some 12) rfl rfl (by kernel_rfl) (by kernel_rfl) (by kernel_rfl) (fun _ _ _ h => h) (Or.inl ⟨by kernel_rfl, ?hyd7⟩) (by assumption) ?restd7
    case hyd7 => first | (intro w hSw; (try dsimp only at hSw); go_simp; done) | (intro w hSw; (try dsimp only at hSw); go_simp; with_reducible rfl)
    (try simp only [Act.put, List.setIfInBounds_toArray, List.set_cons_zero, List.set_cons_succ])
    refine takeD (i := 8) (v := ?_) (d := some 13) rfl rfl (by kernel_rfl) (by kernel_rfl) (by kernel_rfl) (fun _ _ _ h => h) (Or.inl ⟨by kernel_rfl, ?hyd8⟩) (by assumption) ?restd8
    case hyd8 => first | (intro w hSw; (try dsimp only at hSw); go_simp; done) | (intro w hSw; (try dsimp only at hSw); go_simp; with_reducible rfl)
    (try simp only [Act.put, List.setIfInBounds_toArray, List.set_cons_zero, List.set_cons_succ])
    refine wpAnyH_ready (rs := [9]) (by kernel_rfl) (by simp) ?_
    refine AllReadyH.cons rfl (fun K hK => ?_) AllReadyH.nil
    go_simp
    (go_at_call 56; refine (within_is st 0 (q - 1) true H1.out _).mono ?_; rintro z x2 ⟨rfl, rfl⟩)
    (try go_wp2_with fail)
    refine hK.out _ _ ?_ (fun hHeld => ?_)
    · (try dsimp only); (first | go_keep | exact ⟨m0, m1, m2, m3, c0, c1⟩)
    clear hK K
    (try simp only [Act.put, List.setIfInBounds_toArray, List.set_cons_zero, List.set_cons_succ])
    refine takeD (i := 10) (v := ?_) (d := some 15) rfl rfl (by kernel_rfl) (by kernel_rfl) (by kernel_rfl) (fun _ _ _ h => h) (Or.inl ⟨by kernel_rfl, ?hyd10⟩) (by assumption) ?restd10
    case hyd10 => first | (intro w hSw; (try dsimp only at hSw); go_simp; done) | (intro w hSw; (try dsimp only at hSw); go_simp; with_reducible rfl)
    (try simp only [Act.put, List.setIfInBounds_toArray, List.set_cons_zero, List.set_cons_succ])
    refine takeD (i := 11) (v := ?_) (d := some 16) rfl rfl (by kernel_rfl) (by kernel_rfl) (by kernel_rfl) (fun _ _ _ h => h) (Or.inl ⟨by kernel_rfl, ?hyd11⟩) (by assumption) ?restd11
    case hyd11 => first | (intro w hSw; (try dsimp only at hSw); go_simp; done) | (intro w hSw; (try dsimp only at hSw); go_simp; with_reducible rfl)
    (try simp only [Act.put, List.setIfInBounds_toArray, List.set_cons_zero, List.set_cons_succ])
    refine takeD (i := 12) (v := ?_) (d := some 17) rfl rfl (by kernel_rfl) (by kernel_rfl) (by kernel_rfl) (fun _ _ _ h => h) (Or.inl ⟨by kernel_rfl, ?hyd12⟩) (by assumption) ?restd12
    case hyd12 => first | (intro w hSw; (try dsimp only at hSw); go_simp; done) | (intro w hSw; (try dsimp only at hSw); go_simp; with_reducible rfl)
    (try simp only [Act.put, List.setIfInBounds_toArray, List.set_cons_zero, List.set_cons_succ])
    refine takeD (i := 13) (v := ?_) (d := some 18) rfl rfl (by kernel_rfl) (by kernel_rfl) (by kernel_rfl) (fun _ _ _ h => h) (Or.inl ⟨by kernel_rfl, ?hyd13⟩) (by assumption) ?restd13
    case hyd13 => first | (intro w hSw; (try dsimp only at hSw); go_simp; done) | (intro w hSw; (try dsimp only at hSw); go_simp; with_reducible rfl)
    (try simp only [Act.put, List.setIfInBounds_toArray, List.set_cons_zero, List.set_cons_succ])
    refine takeD (i := 14) (v := ?_) (d := some 19) rfl rfl (by kernel_rfl) (by kernel_rfl) (by kernel_rfl) (fun _ _ _ h => h) (Or.inl ⟨by kernel_rfl, ?hyd14⟩) (by assumption) ?restd14
    case hyd14 => first | (intro w hSw; (try dsimp only at hSw); go_simp; done) | (intro w hSw; (try dsimp only at hSw); go_simp; with_reducible rfl)
    (try simp only [Act.put, List.setIfInBounds_toArray, List.set_cons_zero, List.set_cons_succ])
    refine takeD (i := 16) (v := ?_) (d := some 21) rfl rfl (by kernel_rfl) (by kernel_rfl) (by kernel_rfl) (fun _ _ _ h => h) (Or.inl ⟨by kernel_rfl, ?hyd16⟩) (by assumption) ?restd16
    case hyd16 => first | (intro w hSw; (try dsimp only at hSw); go_simp; done) | (intro w hSw; (try dsimp only at hSw); go_simp; with_reducible rfl)
    (try simp only [Act.put, List.setIfInBounds_toArray, List.set_cons_zero, List.set_cons_succ])
    refine takeD (i := 17) (v := ?_) (d := some 22) rfl rfl (by kernel_rfl) (by kernel_rfl) (by kernel_rfl) (fun _ _ _ h => h) (Or.inl ⟨by kernel_rfl, ?hyd17⟩) (by assumption) ?restd17
    case hyd17 => first | (intro w hSw; (try dsimp only at hSw); go_simp; done) | (intro w hSw; (try dsimp only at hSw); go_simp; with_reducible rfl)
    (try simp only [Act.put, List.setIfInBounds_toArray, List.set_cons_zero, List.set_cons_succ])
    refine wpAnyH_ready (rs := [15]) (by kernel_rfl) (by simp) ?_
    refine AllReadyH.cons rfl (fun K hK => ?_) AllReadyH.nil
    go_simp
    (go_at_call 57; refine (sizeTape_is _ m ct _).mono ?_; rintro z x3 ⟨rfl, rfl⟩)
    (try go_wp2_with fail)
    refine hK.out _ _ ?_ (fun hHeld => ?_)
    · (try dsimp only); (first | go_keep | exact ⟨m0, m1, m2, m3, c0, c1⟩)
    clear hK K
    (try simp only [Act.put, List.setIfInBounds_toArray, List.set_cons_zero, List.set_cons_succ])
    refine takeD (i := 18) (v := ?_) (d := some 23) rfl rfl (by kernel_rfl) (by kernel_rfl) (by kernel_rfl) (fun _ _ _ h => h) (Or.inl ⟨by kernel_rfl, ?hyd18⟩) (by assumption) ?restd18
    case hyd18 => first | (intro w hSw; (try dsimp only at hSw); go_simp; done) | (intro w hSw; (try dsimp only at hSw); go_simp; with_reducible rfl)
    (try simp only [Act.put, List.setIfInBounds_toArray, List.set_cons_zero, List.set_cons_succ])
    refine takeD (i := 19) (v := ?_) (d := some 24) rfl rfl (by kernel_rfl) (by kernel_rfl) (by kernel_rfl) (fun _ _ _ h => h) (Or.inl ⟨by kernel_rfl, ?hyd19⟩) (by assumption) ?restd19
    case hyd19 => first | (intro w hSw; (try dsimp only at hSw); go_simp; done) | (intro w hSw; (try dsimp only at hSw); go_simp; with_reducible rfl)
    (try simp only [Act.put, List.setIfInBounds_toArray, List.set_cons_zero, List.set_cons_succ])
    refine wpAnyH_done (by kernel_rfl) ?_ _
    have HBZ := Lib.hid (below_step HBW.out HBT)
    have HCB := Lib.hid (containsBadTape w.heap.size t s q gr n c es gt m ct ts td v HF.out.symm _ MX CX.rs CX.rc HTD.out HTL.out htn HTLE.out HSB.out)
    clear MX CX BR HBT m0 m1 m2 m3 c0
    go_wp2_with (go_at_call 58; refine HCB.out.mono ?_; rintro z w' ⟨rfl, bb⟩; replace bb := Lib.hid bb)
    go_ret
    exact ⟨ret_bool (by simp), below_step HBZ.out bb.out⟩
end Go.Proofs.YtgcedfpjgdeakaaDoor

/- areWords: whether all of some lists are words. -/
namespace Go.Proofs.YtgcedfpjgdeakaaDoor
open Go.RowKit
set_option linter.all false

/-- Slices of numbers in the cells of another slice. -/
def Wds (w : World) (vs : List Value) (ts : List (List Int)) : Prop :=
  vs.length = ts.length ∧ ∀ (j : Nat) (v : Value) (t : List Int), vs[j]? = some v → ts[j]? = some t → ∃ b off c, v = .slice (some ⟨b, off, none⟩) t.length c ∧ Sl w b off (t.map (.int .i64)) ∧ t.length ≤ 4194304
theorem Wds.below {w w' : World} {vs : List Value} {ts : List (List Int)} (h : Wds w vs ts) (hb : Below w.heap.size w w') : Wds w' vs ts :=
  ⟨h.1, fun j v t h1 h2 => by obtain ⟨b, off, c, e, hs, hl⟩ := h.2 j v t h1 h2; exact ⟨b, off, c, e, hs.below' hb, hl⟩⟩
end Go.Proofs.YtgcedfpjgdeakaaDoor

/- slices.Grow of the nil slice and slices.Concat, elements int64. -/
namespace Go.Proofs.YtgcedfpjgdeakaaDoor
open Go.RowKit
set_option linter.all false

/-- Slices in the cells of another one. -/
def SrcsInt64S (w : World) (vs : List Value) (ns : List Nat) (xss : List (List Value)) : Prop :=
  vs.length = xss.length ∧ vs.length = ns.length ∧ ∀ (j : Nat) (v : Value) (n : Nat) (xs : List Value), vs[j]? = some v → ns[j]? = some n → xss[j]? = some xs → Src 1 w v n xs ∧ ∀ u ∈ xs, u.oneCell' = true
theorem SrcsInt64S.below {w w' : World} {vs : List Value} {ns : List Nat} {xss : List (List Value)} (h : SrcsInt64S w vs ns xss) (hb : Below w.heap.size w w') : SrcsInt64S w' vs ns xss :=
  ⟨h.1, h.2.1, fun j v n xs h1 h2 h3 => ⟨(h.2.2 j v n xs h1 h2 h3).1.below hb, (h.2.2 j v n xs h1 h2 h3).2⟩⟩

theorem sum_take_le (ns : List Nat) (k : Nat) : (ns.take k).sum ≤ ns.sum := by
  induction ns generalizing k with
  | nil => simp
  | cons n ns ih =>
    cases k with
    | zero => simp
    | succ k => simp; exact ih k
theorem sum_take_succ (ns : List Nat) (k n : Nat) (h : ns[k]? = some n) : (ns.take (k + 1)).sum = (ns.take k).sum + n := by
  rw [List.take_add_one, h]; simp
end Go.Proofs.YtgcedfpjgdeakaaDoor

/- ReplaceAt and ReplaceFirst, the reference's and the program's. -/
namespace Go.Proofs.YtgcedfpjgdeakaaDoor
open Go.RowKit
set_option linter.all false

/-- A word with 'm' letters from 'k' on replaced. -/
def putL (xs : List Int) (k m : Nat) (ys : List Int) : List Int := xs.take k ++ ys ++ xs.drop (k + m)
theorem putL_length (xs : List Int) (k m : Nat) (ys : List Int) (h : k + m ≤ xs.length) : (putL xs k m ys).length = xs.length - m + ys.length := by
  unfold putL; simp; omega
/-- What the word laws answer: the word where it fits. -/
def fitL (xs : List Int) : List Int × Int := if xs.length ≤ 400 then (xs, 0) else ([], 5)
theorem fitL_yes {xs : List Int} (h : xs.length ≤ 400) : fitL xs = (xs, 0) := by unfold fitL; rw [if_pos h]
theorem fitL_no {xs : List Int} (h : 400 < xs.length) : fitL xs = ([], 5) := by unfold fitL; rw [if_neg (by omega)]
theorem isWord_len {xs : List Int} (h : isWordB xs = true) : xs.length ≤ 400 := by unfold isWordB at h; simp at h; exact h.1
end Go.Proofs.YtgcedfpjgdeakaaDoor

/- ReplaceAt and ReplaceFirst: the walks. -/
namespace Go.Proofs.YtgcedfpjgdeakaaDoor
open Go.RowKit
set_option linter.all false

def wordsB (x p y : List Int) : Bool := isWordB x && isWordB p && isWordB y
def replaceAt (x : List Int) (at' : Int) (p y : List Int) : List Int × Int :=
  if wordsB x p y then
    if inB at' 0 x.length then
      if startsB x at'.toNat p then fitL (putL x at'.toNat p.length y) else ([], 3)
    else ([], 2)
  else ([], 1)
theorem fitL_bnd (xs : List Int) : (fitL xs).1.length ≤ 1048576 := by unfold fitL; split <;> simp <;> omega
theorem bndReplaceAt0 (x : List Int) (at' : Int) (p y : List Int) (h1 : x.length ≤ 1048576) (h2 : p.length ≤ 1048576) (h3 : y.length ≤ 1048576) : (replaceAt x at' p y).1.length ≤ 1048576 := by
  unfold replaceAt; split
  · split
    · split
      · exact fitL_bnd _
      · simp
    · simp
  · simp
theorem starts_le {x p : List Int} {k : Nat} (h : startsB x k p = true) : k + p.length ≤ x.length := by unfold startsB at h; simp at h; exact h.1
theorem starts_drop (x p : List Int) (k : Nat) (h : k ≤ x.length) : startsB (x.drop k) 0 p = startsB x k p := by
  unfold startsB
  simp only [List.drop_zero, List.length_drop, Nat.zero_add]
  congr 1
  rw [decide_eq_decide]; omega
theorem ends2 {v : Value} {a b : Int} (h : a = b) : Ending.returned (.tuple #[v, .int .i64 a]) = .returned (.tuple #[v, .int .i64 b]) := by rw [h]
/-- How the word laws end. -/
theorem own_nil' {w : World} {B : Nat} {r : List Int × Int} {k : Int} (h : r = ([], k)) : w.ownsRow B 2 1 (.slice none 0 0) r.1.length (r.1.map (.int .i64)) := by
  rw [h]; exact World.ownsRow_nil _ _ _ _
theorem own_fit {w : World} {B n : Nat} {v : Value} {r : List Int × Int} {k : Int} {xs : List Int} (h : r = (xs, k)) (hl : xs.length = n) (ho : w.ownsRow B 2 1 v n (xs.map (.int .i64))) : w.ownsRow B 2 1 v r.1.length (r.1.map (.int .i64)) := by
  subst hl; rw [h]; exact ho
end Go.Proofs.YtgcedfpjgdeakaaDoor

/- ReplaceFirst: the walks. -/
namespace Go.Proofs.YtgcedfpjgdeakaaDoor
open Go.RowKit
set_option linter.all false

/-- The places below a bound where a part stands. -/
def occTo (x p : List Int) (n : Nat) : List Nat := (List.range n).filter fun j => startsB x j p
def occL (x p : List Int) : List Nat := occTo x p (x.length + 1)
theorem occTo_yes {x p : List Int} {k : Nat} (h : startsB x k p = true) : occTo x p (k + 1) = occTo x p k ++ [k] := by
  unfold occTo; rw [List.range_succ, List.filter_append]; simp [h]
theorem occTo_no {x p : List Int} {k : Nat} (h : startsB x k p = false) : occTo x p (k + 1) = occTo x p k := by
  unfold occTo; rw [List.range_succ, List.filter_append]; simp [h]
theorem occTo_len (x p : List Int) (n : Nat) : (occTo x p n).length ≤ n := by
  unfold occTo; exact Nat.le_trans (List.length_filter_le _ _) (by simp)
theorem starts_past {x p : List Int} {j : Nat} (h : x.length < j + p.length) : startsB x j p = false := by
  unfold startsB; rw [decide_eq_false (by omega), Bool.false_and]
theorem occ_head_some {x p : List Int} {k n : Nat} (hk : k < n) (h : startsB x k p = true) (hj : ∀ j, j < k → startsB x j p = false) : (occTo x p n).head? = some k := by
  unfold occTo
  rw [List.head?_filter, List.find?_range_eq_some]
  exact ⟨h, by simpa using hk, fun j hj' => by simp [hj j hj']⟩
theorem occ_head_none {x p : List Int} {n : Nat} (hj : ∀ j, j < n → startsB x j p = false) : (occTo x p n).head? = none := by
  unfold occTo
  rw [List.head?_filter, List.find?_eq_none]
  intro j hj'
  simp [hj j (by simpa using hj')]
/-- The first place, or -1. -/
def firstI (l : List Nat) : Int := match l.head? with | none => -1 | some k => k
def replaceFirst (x p y : List Int) : List Int × Int :=
  if wordsB x p y then
    match (occL x p).head? with
    | none => ([], 3)
    | some k => fitL (putL x k p.length y)
  else ([], 1)
theorem bndReplaceFirst0 (x p y : List Int) (h1 : x.length ≤ 1048576) (h2 : p.length ≤ 1048576) (h3 : y.length ≤ 1048576) : (replaceFirst x p y).1.length ≤ 1048576 := by
  unfold replaceFirst; split
  · split
    · simp
    · exact fitL_bnd _
  · simp

theorem arg_of_own_any {w : World} {base : Nat} {e : TypeId} {n : Nat} {v : Value} {u : Value} {xs : List Value} (h : w.ownsRow base e 1 v n (u :: xs)) : ∃ b o c, v = .slice (some ⟨b, o, none⟩) n c ∧ Sl w b o (u :: xs) := by
  obtain ⟨A, c, rfl⟩ := own_form h
  have ha := arg_of_own h
  have hl := ha.1
  obtain ⟨b, o, rfl, hs⟩ := ha.sl (k := 0) (by simp at hl; omega)
  exact ⟨b, o, c, rfl, hs⟩
end Go.Proofs.YtgcedfpjgdeakaaDoor

/- Words of the call's own that have an address; steps on a nil word. Plain contracts, no conditions beyond the sizes. -/
namespace Go.Proofs.YtgcedfpjgdeakaaDoor
open Go.RowKit
set_option linter.all false

theorem own_adr {w : World} {base : Nat} {e : TypeId} {size n : Nat} {v : Value} {xs : List Value} (h : w.ownsRow base e size v n xs) (hne : v ≠ .slice none 0 0) : ∃ g d, v = .slice (some ⟨g, 0, none⟩) n d ∧ n ≤ d := by
  rcases h.2 with ⟨h0, _⟩ | ⟨g, cap, cur, h0, _, _, h1, _⟩
  · exact absurd h0 hne
  · exact ⟨g, cap, h0, h1⟩
/-- What is owned is nil and empty, or has an address. -/
theorem own_cases {w : World} {base : Nat} {e : TypeId} {size n : Nat} {v : Value} {xs : List Value} (h : w.ownsRow base e size v n xs) : (v = .slice none 0 0 ∧ n = 0) ∨ ∃ g d, v = .slice (some ⟨g, 0, none⟩) n d ∧ n ≤ d := by
  rcases h.2 with ⟨h0, h1⟩ | ⟨g, cap, cur, h0, _, _, h1, _⟩
  · exact .inl ⟨h0, h1⟩
  · exact .inr ⟨g, cap, h0, h1⟩

set_option maxRecDepth 100000 in
theorem cloneA_any (b off n c : Nat) (xs : List Int) (w : World) (hs : Sl w b off (xs.map (Value.int .i64))) (hl : xs.length = n) (hn : n ≤ 1048576) :
    Calls Tryd.prog 89 #[.slice (some ⟨b, off, none⟩) n c] w fun e w' => ∃ g d, e = .returned (.slice (some ⟨g, 0, none⟩) n d) ∧ w'.ownsRow w.heap.size 2 1 (.slice (some ⟨g, 0, none⟩) n d) n (xs.map (Value.int .i64)) ∧ Below w.heap.size w w' ∧ n ≤ d := by
  have hown0 : (w.alloc (.cells #[] 2)).ownsRow w.heap.size 2 1 (.slice (some ⟨w.heap.size, 0, none⟩) 0 0) 0 [] := own_empty w 2 1
  have hB0 := laid_below w (.cells #[] 2)
  have hsrc1 : Src 1 (w.alloc (.cells #[] 2)) (.slice (some ⟨b, off, none⟩) n c) n (xs.map (.int .i64)) := Src.of_sl (hs.below' hB0) (by simp; omega)
  have HO := Lib.hid (one_ints .i64 xs)
  clear hs hl
  have hnl := run_nil_some Tryd.underlying82 ⟨b, off, none⟩ n c
  go_enter Tryd.func89, Tryd.ntmps89
  go_wp2_with (at_builtin; refine wpList_appx rfl _ _ _ rfl Tryd.underlying82 infoInt64S rfl (by omega) w.heap.size hown0 hB0.size rfl hsrc1 rfl HO.out (by unfold maxLen; omega) (by omega) ?_; intro v2 w2 hown2 hg2 hnil2; have hB2 := grown_below hB0 hown0 (Nat.le_refl _) hg2; obtain ⟨g2, d2, rfl, hd2⟩ := own_adr hown2 (fun e => by cases (hnil2 e).1); clear hnil2 hown0 hB0 hsrc1 hg2)
  go_ret
  have hown3 : w2.ownsRow w.heap.size 2 1 (.slice (some ⟨g2, 0, none⟩) n d2) n (xs.map (Value.int .i64)) := by simpa using hown2
  exact ⟨g2, d2, by first | rfl | rw [Nat.zero_add], hown3, hB2, by omega⟩
end Go.Proofs.YtgcedfpjgdeakaaDoor

/- Sorted lists of numbers: what l00Put builds is what Sort and Compact leave; a sorted list rises just where no number occurs twice. Plain lemmas. -/
namespace Go.Proofs.YtgcedfpjgdeakaaDoor
set_option linter.all false

def Asc (l : List Int) : Prop := l.Pairwise (· < ·)
def put (n : Int) : List Int → List Int
  | [] => [n]
  | y :: l => if n ≤ y then (if n < y then n :: y :: l else y :: l) else y :: put n l
theorem mem_put (n x : Int) (l : List Int) : x ∈ put n l ↔ x = n ∨ x ∈ l := by
  induction l with
  | nil => simp [put]
  | cons y l ih =>
    rw [put]
    by_cases h1 : n ≤ y
    · rw [if_pos h1]
      by_cases h2 : n < y
      · rw [if_pos h2]; simp
      · rw [if_neg h2]
        obtain rfl : n = y := by omega
        simp
    · rw [if_neg h1]
      simp only [List.mem_cons, ih]
      constructor
      · rintro (h | h | h)
        · exact .inr (.inl h)
        · exact .inl h
        · exact .inr (.inr h)
      · rintro (h | h | h)
        · exact .inr (.inl h)
        · exact .inl h
        · exact .inr (.inr h)
theorem put_len (n : Int) (l : List Int) : (put n l).length ≤ l.length + 1 := by
  induction l with
  | nil => simp [put]
  | cons y l ih =>
    rw [put]
    split
    · split <;> simp
    · simp; omega
theorem asc_put (n : Int) (l : List Int) (h : Asc l) : Asc (put n l) := by
  induction l with
  | nil => simp [put, Asc]
  | cons y l ih =>
    unfold Asc at h ⊢
    rw [List.pairwise_cons] at h
    rw [put]
    by_cases h1 : n ≤ y
    · rw [if_pos h1]
      by_cases h2 : n < y
      · rw [if_pos h2, List.pairwise_cons, List.pairwise_cons]
        refine ⟨fun a ha => ?_, h⟩
        rcases List.mem_cons.1 ha with rfl | ha
        · exact h2
        · have := h.1 a ha; omega
      · rw [if_neg h2, List.pairwise_cons]; exact h
    · rw [if_neg h1, List.pairwise_cons]
      refine ⟨fun a ha => ?_, ih h.2⟩
      rcases (mem_put _ _ _).1 ha with rfl | ha
      · omega
      · exact h.1 a ha
theorem asc_ext : ∀ (l1 l2 : List Int), Asc l1 → Asc l2 → (∀ x, x ∈ l1 ↔ x ∈ l2) → l1 = l2 := by
  intro l1
  induction l1 with
  | nil =>
    intro l2 _ _ h
    cases l2 with
    | nil => rfl
    | cons b l2 => exact absurd ((h b).2 (by simp)) (by simp)
  | cons a l1 ih =>
    intro l2 h1 h2 h
    cases l2 with
    | nil => exact absurd ((h a).1 (by simp)) (by simp)
    | cons b l2 =>
      unfold Asc at h1 h2
      rw [List.pairwise_cons] at h1 h2
      have e : a = b := by
        rcases List.mem_cons.1 ((h a).1 (by simp)) with e | e
        · exact e
        rcases List.mem_cons.1 ((h b).2 (by simp)) with e2 | e2
        · exact e2.symm
        have := h2.1 a e; have := h1.1 b e2; omega
      subst e
      rw [ih l2 h1.2 h2.2 fun x => ?_]
      constructor
      · intro hx
        rcases List.mem_cons.1 ((h x).1 (by simp [hx])) with e | e
        · subst e; have := h1.1 x hx; omega
        · exact e
      · intro hx
        rcases List.mem_cons.1 ((h x).2 (by simp [hx])) with e | e
        · subst e; have := h2.1 x hx; omega
        · exact e

def srt (xs : List Int) : List Int := xs.mergeSort fun x y => decide (x ≤ y)
theorem srt_perm (xs : List Int) : (srt xs).Perm xs := List.mergeSort_perm _ _
theorem srt_len (xs : List Int) : (srt xs).length = xs.length := (srt_perm xs).length_eq
theorem srt_le (xs : List Int) : (srt xs).Pairwise (· ≤ ·) := by
  have h := List.pairwise_mergeSort (le := fun x y : Int => decide (x ≤ y)) (by intro a b c; simp; omega) (by intro a b; simp; omega) xs
  exact h.imp (by intro a b; simp)
def sortU (xs : List Int) : List Int := Lib.compact (srt xs)

theorem compact_le (d : Array Int) (h : ∀ i j, i ≤ j → j < d.size → d[i]! ≤ d[j]!) : ∀ m, m ≤ d.size → Asc (Lib.compactUpTo d m) ∧ (∀ x, x ∈ Lib.compactUpTo d m ↔ ∃ j, j < m ∧ d[j]! = x) ∧ (∀ x ∈ Lib.compactUpTo d m, x ≤ d[m - 1]!) := by
  intro m
  induction m with
  | zero => intro _; exact ⟨by simp [Lib.compactUpTo, Asc], by simp [Lib.compactUpTo], by simp [Lib.compactUpTo]⟩
  | succ m ih =>
    intro hm
    obtain ⟨h1, h2, h3⟩ := ih (by omega)
    rw [Lib.compactUpTo_succ]
    cases hk : Lib.keeps d m with
    | true =>
      have hk' : m = 0 ∨ d[m]! ≠ d[m - 1]! := by simpa [Lib.keeps] using hk
      have hlt : ∀ x ∈ Lib.compactUpTo d m, x < d[m]! := by
        intro x hx
        have hx3 := h3 x hx
        rcases hk' with rfl | hk'
        · obtain ⟨j, hj, _⟩ := (h2 x).1 hx; omega
        · have := h (m - 1) m (by omega) (by omega)
          omega
      simp only [if_true]
      refine ⟨?_, ?_, ?_⟩
      · unfold Asc at h1 ⊢
        rw [List.pairwise_append]
        exact ⟨h1, by simp, fun a ha b hb => by rw [List.mem_singleton] at hb; subst hb; exact hlt a ha⟩
      · intro x
        rw [List.mem_append, h2]
        constructor
        · rintro (⟨j, hj, e⟩ | hx)
          · exact ⟨j, by omega, e⟩
          · exact ⟨m, by omega, (List.mem_singleton.1 hx).symm⟩
        · rintro ⟨j, hj, e⟩
          by_cases hjm : j = m
          · subst hjm; exact .inr (by simp [e])
          · exact .inl ⟨j, by omega, e⟩
      · intro x hx
        rw [List.mem_append] at hx
        show x ≤ d[m]!
        rcases hx with hx | hx
        · have := hlt x hx; omega
        · rw [List.mem_singleton] at hx; omega
    | false =>
      have hk' : ¬ (m = 0 ∨ d[m]! ≠ d[m - 1]!) := by simpa [Lib.keeps] using hk
      have hm0 : m ≠ 0 := fun e => hk' (.inl e)
      have he : d[m]! = d[m - 1]! := by
        by_cases e : d[m]! = d[m - 1]!
        · exact e
        · exact absurd (.inr e) hk'
      simp only [Bool.false_eq_true, if_false, List.append_nil]
      refine ⟨h1, fun x => ?_, fun x hx => ?_⟩
      · rw [h2]
        constructor
        · rintro ⟨j, hj, e⟩; exact ⟨j, by omega, e⟩
        · rintro ⟨j, hj, e⟩
          by_cases hjm : j = m
          · subst hjm; exact ⟨j - 1, by omega, by rw [← he]; exact e⟩
          · exact ⟨j, by omega, e⟩
      · show x ≤ d[m]!
        rw [he]; exact h3 x hx
theorem sortU_asc (xs : List Int) : Asc (sortU xs) ∧ ∀ x, x ∈ sortU xs ↔ x ∈ xs := by
  have hs := srt_le xs
  have hsz : (srt xs).toArray.size = (srt xs).length := by simp
  have hg : ∀ i, i < (srt xs).length → (srt xs).toArray[i]! = (srt xs)[i]! := by intro i hi; simp
  have := compact_le (srt xs).toArray (by
    intro i j hij hj
    rw [hsz] at hj
    rw [hg i (by omega), hg j hj, getElem!_pos _ i (by omega), getElem!_pos _ j hj]
    by_cases e : i = j
    · subst e; omega
    · exact List.pairwise_iff_getElem.1 hs i j (by omega) hj (by omega)) (srt xs).length (by simp)
  refine ⟨this.1, fun x => ?_⟩
  have h2 := this.2.1 x
  show x ∈ Lib.compactUpTo (srt xs).toArray (srt xs).length ↔ _
  rw [h2, ← (srt_perm xs).mem_iff]
  constructor
  · rintro ⟨j, hj, e⟩
    rw [hg j hj, getElem!_pos _ j hj] at e
    rw [← e]; exact List.getElem_mem _
  · intro hx
    obtain ⟨j, hj, e⟩ := List.mem_iff_getElem.1 hx
    exact ⟨j, hj, by rw [hg j hj, getElem!_pos _ j hj]; exact e⟩
theorem sortU_len (xs : List Int) : (sortU xs).length ≤ xs.length := by
  unfold sortU Lib.compact Lib.compactUpTo
  rw [List.length_map]
  have := List.length_filter_le (Lib.keeps (srt xs).toArray) (List.range (srt xs).length)
  rw [List.length_range, srt_len] at this
  rw [srt_len]
  exact this
/-- What l00Put builds, number by number. -/
def puts (acc xs : List Int) : List Int := xs.foldl (fun l n => put n l) acc
theorem puts_cons (acc xs : List Int) (n : Int) : puts acc (n :: xs) = puts (put n acc) xs := rfl
theorem puts_app (acc xs ys : List Int) : puts acc (xs ++ ys) = puts (puts acc xs) ys := by simp [puts]
theorem puts_spec (xs : List Int) : ∀ acc, Asc acc → Asc (puts acc xs) ∧ ∀ x, x ∈ puts acc xs ↔ x ∈ acc ∨ x ∈ xs := by
  induction xs with
  | nil => intro acc h; exact ⟨h, by simp [puts]⟩
  | cons n xs ih =>
    intro acc h
    rw [puts_cons]
    obtain ⟨h1, h2⟩ := ih (put n acc) (asc_put n acc h)
    refine ⟨h1, fun x => ?_⟩
    rw [h2, mem_put, List.mem_cons]
    constructor
    · rintro ((h | h) | h)
      · exact .inr (.inl h)
      · exact .inl h
      · exact .inr (.inr h)
    · rintro (h | h | h)
      · exact .inl (.inr h)
      · exact .inl (.inl h)
      · exact .inr h
theorem puts_eq (xs : List Int) : puts [] xs = sortU xs := by
  have h1 := puts_spec xs [] (by simp [Asc])
  have h2 := sortU_asc xs
  exact asc_ext _ _ h1.1 h2.1 fun x => by rw [h1.2, h2.2]; simp
theorem puts_len (xs : List Int) : ∀ acc, (puts acc xs).length ≤ acc.length + xs.length := by
  induction xs with
  | nil => intro acc; simp [puts]
  | cons n xs ih => intro acc; rw [puts_cons]; have := ih (put n acc); have := put_len n acc; simp; omega

/-- Each number is greater than the one before it. -/
def rises : List Int → Bool
  | [] => true
  | [_] => true
  | x :: y :: l => decide (x < y) && rises (y :: l)
theorem rises_iff (l : List Int) (h : l.Pairwise (· ≤ ·)) : rises l = true ↔ l.Nodup := by
  induction l with
  | nil => simp [rises]
  | cons x l ih =>
    rw [List.pairwise_cons] at h
    cases l with
    | nil => simp [rises]
    | cons y l =>
      rw [rises, Bool.and_eq_true, ih h.2, decide_eq_true_eq, List.nodup_cons (a := x)]
      constructor
      · rintro ⟨h1, h2⟩
        refine ⟨fun hm => ?_, h2⟩
        rcases List.mem_cons.1 hm with e | e
        · omega
        · have := (List.pairwise_cons.1 h.2).1 x e; omega
      · rintro ⟨h1, h2⟩
        refine ⟨?_, h2⟩
        have := h.1 y (by simp)
        have : x ≠ y := fun e => h1 (by simp [e])
        omega
/-- No number occurs twice. -/
def nodupB (l : List Int) : Bool := decide l.Nodup
theorem rises_srt (xs : List Int) : rises (srt xs) = nodupB xs := by
  rw [Bool.eq_iff_iff, rises_iff _ (srt_le xs), (srt_perm xs).nodup_iff]
  simp [nodupB]
/-- From place k on no number stands ahead of itself. -/
theorem nodup_step {xs : List Int} {k : Nat} {x : Int} (hx : xs[k]? = some x) (h : (xs.take k).Nodup) : (xs.take (k + 1)).Nodup ↔ x ∉ xs.take k := by
  rw [List.take_add_one, hx]
  simp only [Option.toList_some]
  rw [List.nodup_append]
  constructor
  · rintro ⟨_, _, h3⟩ hm
    exact h3 x hm x (by simp) rfl
  · intro hm
    exact ⟨h, by simp, fun a ha b hb => by rw [List.mem_singleton] at hb; subst hb; rintro rfl; exact hm ha⟩
theorem nodup_of_not {xs : List Int} {k : Nat} (h : ¬ (xs.take k).Nodup) : nodupB xs = false := by
  unfold nodupB
  rw [decide_eq_false_iff_not]
  intro hn
  exact h (hn.sublist (List.take_sublist _ _))
end Go.Proofs.YtgcedfpjgdeakaaDoor

/- What a sort leaves of a row of the call's own. Plain lemmas on worlds. -/
namespace Go.Proofs.YtgcedfpjgdeakaaDoor
open Go.RowKit Go.Sort
set_option linter.all false

theorem holds_of_own {w : World} {base : Nat} {e : TypeId} {g n cap : Nat} {zs : List Int} (h : w.ownsRow base e 1 (.slice (some ⟨g, 0, none⟩) n cap) n (zs.map (Value.int .i64))) : Holds (Value.int .i64) w g 0 zs.toArray := by
  intro j hj
  have hj' : j < zs.length := by simpa using hj
  have hn : zs.length = n := by have := h.1; simpa using this
  refine ⟨?_, by have := h.frozenAt (0 + j); simpa using this⟩
  have := h.cellAt j (by omega)
  rw [Nat.zero_add, this]
  simp [hj']
theorem own_putRow {w : World} {base : Nat} {e : TypeId} {g n cap : Nat} {xs : List Value} (h : w.ownsRow base e 1 (.slice (some ⟨g, 0, none⟩) n cap) n xs) (d : List Int) (hd : d.length = n) (q : Nat) :
    (putRow (Value.int .i64) (Sort.ahead w q) g 0 d.toArray).ownsRow base e 1 (.slice (some ⟨g, 0, none⟩) n cap) n (d.map (Value.int .i64)) ∧ w.grownBy (putRow (Value.int .i64) (Sort.ahead w q) g 0 d.toArray) (some g) := by
  rcases h.2 with ⟨h0, _⟩ | ⟨g', cap', cur, hv, hb, hg, hn, hm, hs, hx⟩
  · cases h0
  · injection hv with e1 e2 e3
    injection e1 with e1
    injection e1 with e1
    subst e1 e3
    refine ⟨⟨by simp [hd], .inr ⟨g, cap, putCells (Value.int .i64) 0 d.toArray cur, rfl, hb, ?_, hn, hm, by simp [putCells, hs], ?_⟩⟩, ?_⟩
    · show (w.heap.modify g (onCells (putCells (Value.int .i64) 0 d.toArray)))[g]? = _
      rw [Array.getElem?_modify, if_pos rfl, hg]
      rfl
    · apply List.ext_getElem?
      intro j
      by_cases hj : j < n
      · rw [List.getElem?_take, if_pos (by omega)]
        have hc : j < cur.size := by omega
        simp only [putCells, Array.getElem?_toList, Array.getElem?_mapIdx]
        rw [Array.getElem?_eq_getElem hc, Option.map_some, if_pos (by simp; omega)]
        simp [show j < d.length by omega]
      · rw [List.getElem?_eq_none (by simp; omega), List.getElem?_eq_none (by simp; omega)]
    · refine ⟨rfl, rfl, rfl, by simp, fun k hk hne => ?_⟩
      show (w.heap.modify g _)[k]? = _
      rw [Array.getElem?_modify, if_neg (by intro e; exact hne (by rw [e]))]
theorem below_growS (w : World) (os : Array Obj) : Below w.heap.size w (grow w os) := ⟨rfl, rfl, rfl, by simp, fun k hk => heap_grow_old w os hk⟩
theorem grown_grow {w w' : World} {g : Nat} (h : w.grownBy w' (some g)) (os : Array Obj) : w.grownBy (grow w' os) (some g) :=
  ⟨h.os, h.tape, h.output, by have := h.size; simp; omega, fun k hk hne => (heap_grow_old w' os (by have := h.size; omega)).trans (h.block k hk hne)⟩
/-- Fewer elements of a row of one's own. -/
theorem own_shorter {w : World} {base : Nat} {e : TypeId} {g n m cap : Nat} {xs : List Value} (h : w.ownsRow base e 1 (.slice (some ⟨g, 0, none⟩) n cap) n xs) (hm : m ≤ n) : w.ownsRow base e 1 (.slice (some ⟨g, 0, none⟩) m cap) m (xs.take m) := by
  have hl := h.1
  rcases h.2 with ⟨h0, _⟩ | ⟨g', cap', cur, hv, hb, hg, hn, hmx, hs, hx⟩
  · cases h0
  · injection hv with e1 e2 e3
    injection e1 with e1
    injection e1 with e1
    subst e1 e3
    refine ⟨by rw [List.length_take]; omega, .inr ⟨g, cap, cur, rfl, hb, hg, by omega, hmx, hs, ?_⟩⟩
    rw [← hx, List.take_take, Nat.min_eq_left (by omega), Nat.mul_one]
end Go.Proofs.YtgcedfpjgdeakaaDoor

/- Terms in prefix form: where a term ends, told by how many terms follow each element. Plain lemmas, and the law of a function value. -/
namespace Go.Proofs.YtgcedfpjgdeakaaDoor
open Go.RowKit
set_option linter.all false

section
variable {α : Type} (fol : α → Nat)
/-- The place behind op terms that begin at place k, or -1. -/
def tPosAt : Nat → Nat → List α → Int
  | 0, k, _ => k
  | _ + 1, _, [] => -1
  | op + 1, k, x :: l => tPosAt (op + fol x) (k + 1) l
  termination_by _ _ l => l.length
theorem tPosAt_zero (k : Nat) (l : List α) : tPosAt fol 0 k l = k := by cases l <;> rw [tPosAt]
theorem tPosAt_succ (op k : Nat) (x : α) (l : List α) : tPosAt fol (op + 1) k (x :: l) = tPosAt fol (op + fol x) (k + 1) l := by rw [tPosAt]
theorem tPosAt_none (op k : Nat) : tPosAt fol (op + 1) k [] = -1 := by rw [tPosAt]
def tPos (k : Nat) (l : List α) : Int := tPosAt fol 1 k l
/-- The elements are just op terms. -/
def fit : Nat → List α → Bool
  | 0, [] => true
  | 0, _ :: _ => false
  | _ + 1, [] => false
  | op + 1, x :: l => fit (op + fol x) l
  termination_by _ l => l.length
theorem fit_00 : fit fol 0 [] = true := by rw [fit]
theorem fit_0c (x : α) (l : List α) : fit fol 0 (x :: l) = false := by rw [fit]
theorem fit_s0 (op : Nat) : fit fol (op + 1) [] = false := by rw [fit]
theorem fit_sc (op : Nat) (x : α) (l : List α) : fit fol (op + 1) (x :: l) = fit fol (op + fol x) l := by rw [fit]
theorem tPosAt_le (l : List α) : ∀ op k : Nat, tPosAt fol op k l ≤ k + l.length := by
  induction l with
  | nil => intro op k; cases op with
    | zero => rw [tPosAt_zero]; simp
    | succ op => rw [tPosAt_none]; simp <;> omega
  | cons x l ih => intro op k; cases op with
    | zero => rw [tPosAt_zero]; simp <;> omega
    | succ op => rw [tPosAt_succ]; have := ih (op + fol x) (k + 1); simp <;> omega
theorem fit_iff (l : List α) : ∀ op k : Nat, decide (tPosAt fol op k l = (k + l.length : Nat)) = fit fol op l := by
  induction l with
  | nil => intro op k; cases op with
    | zero => rw [tPosAt_zero, fit_00]; simp
    | succ op => rw [tPosAt_none, fit_s0]; simp <;> omega
  | cons x l ih => intro op k; cases op with
    | zero => rw [tPosAt_zero, fit_0c]; simp <;> omega
    | succ op =>
      rw [tPosAt_succ, fit_sc, ← ih (op + fol x) (k + 1)]
      have : k + 1 + l.length = k + (x :: l).length := by simp; omega
      rw [this]
theorem fit_pos (l : List α) : decide (tPos fol 0 l = (l.length : Int)) = fit fol 1 l := by
  have := fit_iff fol l 1 0
  rw [Nat.zero_add] at this
  exact this
end
end Go.Proofs.YtgcedfpjgdeakaaDoor

/- Abstraction of combinator terms: plain lemmas. -/
namespace Go.Proofs.YtgcedfpjgdeakaaDoor
set_option linter.all false

section
variable {α : Type} (fol : α → Nat)
/-- Where a row of terms parts. -/
theorem fit_split (l : List α) : ∀ a b k : Nat, fit fol (a + b) l = true → ∃ q, q ≤ l.length ∧ tPosAt fol a k l = ((k + q : Nat) : Int) ∧ fit fol a (l.take q) = true ∧ fit fol b (l.drop q) = true ∧ (0 < a → 0 < q) := by
  induction l with
  | nil =>
    intro a b k h
    cases a with
    | zero => rw [Nat.zero_add] at h; exact ⟨0, by simp, by rw [tPosAt_zero]; simp, by simp [fit_00], by simpa using h, by omega⟩
    | succ a => rw [show a + 1 + b = (a + b) + 1 by omega, fit_s0] at h; cases h
  | cons x l ih =>
    intro a b k h
    cases a with
    | zero => rw [Nat.zero_add] at h; exact ⟨0, by simp, by rw [tPosAt_zero]; simp, by simp [fit_00], by simpa using h, by omega⟩
    | succ a =>
      rw [show a + 1 + b = (a + b) + 1 by omega, fit_sc, show a + b + fol x = (a + fol x) + b by omega] at h
      obtain ⟨q, h1, h2, h3, h4, _⟩ := ih (a + fol x) b (k + 1) h
      refine ⟨q + 1, by simp; omega, ?_, ?_, by simpa using h4, by omega⟩
      · rw [tPosAt_succ, h2]; congr 1; omega
      · rw [List.take_succ_cons, fit_sc]; exact h3
theorem fit_ne (l : List α) (op : Nat) (h : fit fol (op + 1) l = true) : 0 < l.length := by
  cases l with
  | nil => rw [fit_s0] at h; cases h
  | cons x l => simp
end
end Go.Proofs.YtgcedfpjgdeakaaDoor

/- Contracts of the laws' helpers on []Comb: copy, compare, size, mark, look at the marks. For slices of at most 1048576 elements. -/
namespace Go.Proofs.YtgcedfpjgdeakaaDoor
open Go.RowKit
set_option linter.all false

end Go.Proofs.YtgcedfpjgdeakaaDoor

/- Terms in a row of Comb: size and termEnd with whatever function that tells how many terms follow. -/
namespace Go.Proofs.YtgcedfpjgdeakaaDoor
open Go.RowKit
set_option linter.all false

end Go.Proofs.YtgcedfpjgdeakaaDoor

/- Combinator terms: which are valid; combFollow, combEnd, ValidComb and the reference's l12Comb, l12CombEnd. -/
namespace Go.Proofs.YtgcedfpjgdeakaaDoor
open Go.RowKit
set_option linter.all false

def kFol (x : R2) : Nat := if x.a = 0 then 2 else 0
theorem kFol_le (x : R2) : kFol x ≤ 2 := by unfold kFol; split <;> omega
def kOk (x : R2) : Bool := inB x.a 0 4 && inB x.b 0 399 && (decide (x.a = 4) || decide (x.b = 0))
def validC (xs : List R2) : Bool := inB xs.length 1 400 && (xs.all kOk && fit kFol 1 xs)
theorem all_drop {α : Type} {p : α → Bool} {xs : List α} {k : Nat} {x : α} (h : xs[k]? = some x) : (xs.drop k).all p = (p x && (xs.drop (k + 1)).all p) := by rw [drop_at h]; simp

end Go.Proofs.YtgcedfpjgdeakaaDoor

/- slices.Sort, slices.Compact and slices.Clone on rows of numbers of the call's own; SortList, rising, l00Put. -/
namespace Go.Proofs.YtgcedfpjgdeakaaDoor
open Go.RowKit Go.Sort
set_option linter.all false
end Go.Proofs.YtgcedfpjgdeakaaDoor

/- l00Put puts a number to its place among rising ones. -/
namespace Go.Proofs.YtgcedfpjgdeakaaDoor
open Go.RowKit
set_option linter.all false

theorem own_cap' {w : World} {base : Nat} {e : TypeId} {size n : Nat} {v : Value} {xs : List Value} (h : w.ownsRow base e size v n xs) : ∀ A c, v = .slice A n c → n ≤ c := by
  intro A c hv
  rcases h.2 with ⟨h0, h1⟩ | ⟨g, cap, cur, h0, _, _, h1, _⟩
  · omega
  · rw [h0] at hv; injection hv with _ _ h3; omega
theorem grown_cell_new {wr w2 : World} {o : Obj} {base : Nat} {e : TypeId} {size n : Nat} {v : Value} {xs : List Value} (hown : wr.ownsRow base e size v n xs) (hg : (wr.alloc o).grownBy w2 v.ownBlock) {j : Nat} {u : Value} (h : (wr.alloc o).cell? ⟨wr.heap.size, j, none⟩ = some u) : w2.cell? ⟨wr.heap.size, j, none⟩ = some u :=
  hg.cell h (by intro e; have := hown.lt _ e.symm; simp at this)

theorem put_lt {n y : Int} {xs : List Int} {k : Nat} (hy : xs[k]? = some y) (h : n < y) : put n (xs.drop k) = n :: y :: xs.drop (k + 1) := by
  rw [drop_at hy, put, if_pos (by omega), if_pos h]
theorem put_eqv {n y : Int} {xs : List Int} {k : Nat} (hy : xs[k]? = some y) (h : n = y) : put n (xs.drop k) = y :: xs.drop (k + 1) := by
  rw [drop_at hy, put, if_pos (by omega), if_neg (by omega)]
theorem put_gt {n y : Int} {xs : List Int} {k : Nat} (hy : xs[k]? = some y) (h : y < n) : put n (xs.drop k) = y :: put n (xs.drop (k + 1)) := by
  rw [drop_at hy, put, if_neg (by omega)]
theorem take_snoc' {xs : List Int} {k : Nat} {y : Int} (hy : xs[k]? = some y) : xs.take (k + 1) = xs.take k ++ [y] := by
  rw [List.take_add_one, hy]; rfl

end Go.Proofs.YtgcedfpjgdeakaaDoor

/- The variables of a combinator term: combVariables, CombVariables and the reference's l18Names, CombVariables. -/
namespace Go.Proofs.YtgcedfpjgdeakaaDoor
open Go.RowKit
set_option linter.all false

/-- The variables, in order. -/
def varsC : List R2 → List Int
  | [] => []
  | x :: l => (if x.a = 4 then [x.b] else []) ++ varsC l
theorem varsC_app (xs ys : List R2) : varsC (xs ++ ys) = varsC xs ++ varsC ys := by
  induction xs with
  | nil => rfl
  | cons x l ih => simp [varsC, ih]
theorem varsC_len (xs : List R2) : (varsC xs).length ≤ xs.length := by
  induction xs with
  | nil => simp [varsC]
  | cons x l ih => rw [varsC]; split <;> simp <;> omega
theorem varsC_step {xs : List R2} {k : Nat} {x : R2} (h : xs[k]? = some x) : varsC (xs.take (k + 1)) = varsC (xs.take k) ++ (if x.a = 4 then [x.b] else []) := by
  rw [List.take_add_one, h, varsC_app]; simp [varsC]
theorem validC_len {xs : List R2} (h : validC xs = true) : 1 ≤ xs.length ∧ xs.length ≤ 400 := by
  unfold validC at h
  have := (inB_iff _ _ _).1 (Bool.and_eq_true _ _ ▸ h).1
  omega

def combVars (xs : List R2) : List Int × Int := if validC xs then (sortU (varsC xs), 0) else ([], 1)
theorem bndCombVariables0 (xs : List R2) (h : xs.length ≤ 1048576) : (combVars xs).1.length ≤ 1048576 := by
  unfold combVars
  split
  · have h1 := sortU_len (varsC xs)
    have h2 := varsC_len xs
    show (sortU (varsC xs)).length ≤ _
    omega
  · simp
end Go.Proofs.YtgcedfpjgdeakaaDoor

/- Abstraction of combinator terms: what it gives. Plain lemmas. -/
namespace Go.Proofs.YtgcedfpjgdeakaaDoor
set_option linter.all false

instance : DecidableEq R2 := fun x y => decidable_of_iff (x.a = y.a ∧ x.b = y.b) ⟨fun ⟨h1, h2⟩ => by cases x; cases y; simp_all, fun h => by subst h; exact ⟨rfl, rfl⟩⟩
def isV (k : Int) (x : R2) : Bool := decide (x.a = 4) && decide (x.b = k)
def hasV (k : Int) (c : List R2) : Bool := c.any (isV k)
/-- Where the second part of an application begins. -/
def midC (c : List R2) : Nat := max 1 (tPos kFol 1 (c.drop 1)).toNat
def oneV (k : Int) : List R2 → Bool
  | [x] => isV k x
  | _ => false
def absC (k : Int) (short : Bool) (c : List R2) : List R2 :=
  if oneV k c then [⟨3, 0⟩]
  else if h : hasV k c = false then ⟨0, 0⟩ :: ⟨2, 0⟩ :: c
  else if short && oneV k (c.drop (midC c)) && !hasV k ((c.drop 1).take (midC c - 1)) then (c.drop 1).take (midC c - 1)
  else ⟨0, 0⟩ :: ⟨0, 0⟩ :: ⟨1, 0⟩ :: (absC k short ((c.drop 1).take (midC c - 1)) ++ absC k short (c.drop (midC c)))
  termination_by c.length
  decreasing_by
    all_goals
      have hc : 0 < c.length := by
        cases c with
        | nil => simp [hasV] at h
        | cons x l => simp
      have hm : 1 ≤ midC c := by unfold midC; omega
      simp_wf
      omega
theorem abs_one {k : Int} {short : Bool} {c : List R2} (h : oneV k c = true) : absC k short c = [⟨3, 0⟩] := by rw [absC, if_pos h]
theorem abs_not {k : Int} {short : Bool} {c : List R2} (h1 : oneV k c = false) (h : hasV k c = false) : absC k short c = ⟨0, 0⟩ :: ⟨2, 0⟩ :: c := by
  rw [absC, if_neg (by simp [h1]), dif_pos h]
theorem abs_eta {k : Int} {short : Bool} {c d e : List R2} (h1 : oneV k c = false) (h : hasV k c = true) (hd : (c.drop 1).take (midC c - 1) = d) (he : c.drop (midC c) = e) (h3 : (short && oneV k e && !hasV k d) = true) : absC k short c = d := by
  rw [absC, if_neg (by simp [h1]), dif_neg (by simp [h]), hd, he, if_pos h3]
theorem abs_app {k : Int} {short : Bool} {c d e : List R2} (h1 : oneV k c = false) (h : hasV k c = true) (hd : (c.drop 1).take (midC c - 1) = d) (he : c.drop (midC c) = e) (h3 : (short && oneV k e && !hasV k d) = false) : absC k short c = ⟨0, 0⟩ :: ⟨0, 0⟩ :: ⟨1, 0⟩ :: (absC k short d ++ absC k short e) := by
  rw [absC, if_neg (by simp [h1]), dif_neg (by simp [h]), hd, he, if_neg (by simp [h3])]
/-- A term in which a variable occurs, and which is not it, is an application of two terms. -/
theorem abs_parts {k : Int} {c : List R2} (hf : fit kFol 1 c = true) (h1 : oneV k c = false) (h : hasV k c = true) :
    ∃ q, 1 ≤ q ∧ q + 1 < c.length ∧ midC c = q + 1 ∧ tPos kFol 1 (c.drop 1) = ((q + 1 : Nat) : Int) ∧ fit kFol 1 ((c.drop 1).take q) = true ∧ fit kFol 1 (c.drop (q + 1)) = true := by
  cases c with
  | nil => simp [hasV] at h
  | cons x l =>
    rw [show (1 : Nat) = 0 + 1 from rfl, fit_sc, Nat.zero_add] at hf
    unfold kFol at hf
    by_cases ha : x.a = 0
    · rw [if_pos ha] at hf
      obtain ⟨q, g1, g2, g3, g4, g5⟩ := fit_split kFol l 1 1 1 hf
      have hne := fit_ne kFol _ 0 g4
      rw [List.length_drop] at hne
      have ht : tPos kFol 1 l = ((q + 1 : Nat) : Int) := by unfold tPos; rw [g2]; congr 1; omega
      refine ⟨q, g5 (by omega), by simp; omega, ?_, ht, g3, g4⟩
      show max 1 (tPos kFol 1 l).toNat = _
      rw [ht]; simp
    · rw [if_neg ha] at hf
      cases l with
      | nil =>
        simp only [oneV] at h1
        simp [hasV, h1] at h
      | cons y l => rw [fit_0c] at hf; cases hf
theorem absC_len (k : Int) (short : Bool) (N : Nat) : ∀ c : List R2, c.length ≤ N → fit kFol 1 c = true → (absC k short c).length ≤ 4 * c.length := by
  induction N with
  | zero => intro c h hf; have := fit_ne kFol c 0 hf; omega
  | succ N ih =>
    intro c h hf
    have hc := fit_ne kFol c 0 hf
    cases h1 : oneV k c with
    | true => rw [abs_one h1]; simp; omega
    | false =>
      cases h2 : hasV k c with
      | false => rw [abs_not h1 h2]; simp; omega
      | true =>
        obtain ⟨q, q1, q2, q3, q4, q5, q6⟩ := abs_parts hf h1 h2
        have hd : (c.drop 1).take (midC c - 1) = (c.drop 1).take q := by rw [q3]; rfl
        have he : c.drop (midC c) = c.drop (q + 1) := by rw [q3]
        have ld : ((c.drop 1).take q).length = q := by rw [List.length_take, List.length_drop]; omega
        have le : (c.drop (q + 1)).length = c.length - (q + 1) := List.length_drop
        cases h3 : (short && oneV k (c.drop (q + 1)) && !hasV k ((c.drop 1).take q)) with
        | true => rw [abs_eta h1 h2 hd he h3, ld]; omega
        | false =>
          rw [abs_app h1 h2 hd he h3]
          have i1 := ih _ (by omega) q5
          have i2 := ih _ (by omega) q6
          rw [ld] at i1
          rw [le] at i2
          simp only [List.length_cons, List.length_append]
          omega
theorem absC_ne (k : Int) (short : Bool) (c : List R2) (hf : fit kFol 1 c = true) : 1 ≤ (absC k short c).length := by
  have hc := fit_ne kFol c 0 hf
  cases h1 : oneV k c with
  | true => rw [abs_one h1]; simp
  | false =>
    cases h2 : hasV k c with
    | false => rw [abs_not h1 h2]; simp
    | true =>
      obtain ⟨q, q1, q2, q3, q4, q5, q6⟩ := abs_parts hf h1 h2
      have hd : (c.drop 1).take (midC c - 1) = (c.drop 1).take q := by rw [q3]; rfl
      have he : c.drop (midC c) = c.drop (q + 1) := by rw [q3]
      cases h3 : (short && oneV k (c.drop (q + 1)) && !hasV k ((c.drop 1).take q)) with
      | true => rw [abs_eta h1 h2 hd he h3, List.length_take, List.length_drop]; omega
      | false => rw [abs_app h1 h2 hd he h3]; simp
theorem mem_varsC (k : Int) (c : List R2) : k ∈ varsC c ↔ hasV k c = true := by
  induction c with
  | nil => simp [varsC, hasV]
  | cons x l ih =>
    unfold hasV at ih ⊢
    rw [varsC, List.mem_append, ih, List.any_cons, Bool.or_eq_true]
    unfold isV
    by_cases h : x.a = 4
    · rw [if_pos h, List.mem_singleton, decide_eq_true h, Bool.true_and, decide_eq_true_eq, eq_comm (a := k)]
    · simp [h]
theorem has_names (k : Int) (c : List R2) : decide (k ∈ sortU (varsC c)) = hasV k c := by
  rw [Bool.eq_iff_iff, decide_eq_true_eq, (sortU_asc (varsC c)).2 k, mem_varsC]
end Go.Proofs.YtgcedfpjgdeakaaDoor

/- From lambda terms to combinator terms: what it gives, and that the two ways of naming bound variables agree. Plain lemmas. -/
namespace Go.Proofs.YtgcedfpjgdeakaaDoor
set_option linter.all false

def lFol (x : R2) : Nat := if x.a = 1 then 1 else if x.a = 2 then 2 else 0
theorem lFol_le (x : R2) : lFol x ≤ 2 := by
  unfold lFol
  split
  · omega
  · split <;> omega
theorem lFol_0 {x : R2} (h : x.a = 0) : lFol x = 0 := by unfold lFol; rw [h]; rfl
theorem lFol_1 {x : R2} (h : x.a = 1) : lFol x = 1 := by unfold lFol; rw [if_pos h]
theorem lFol_2 {x : R2} (h : x.a = 2) : lFol x = 2 := by unfold lFol; rw [h]; rfl
def lOk (x : R2) : Bool := (decide (x.a = 0) && inB x.b 0 399) || ((decide (x.a = 1) || decide (x.a = 2)) && decide (x.b = 0))
def validT (xs : List R2) : Bool := inB xs.length 1 400 && (xs.all lOk && fit lFol 1 xs)
theorem lOk_cases {x : R2} (h : lOk x = true) : (x.a = 0 ∧ 0 ≤ x.b ∧ x.b ≤ 399) ∨ x.a = 1 ∨ x.a = 2 := by
  unfold lOk at h
  simp only [Bool.or_eq_true, Bool.and_eq_true, decide_eq_true_eq, inB_iff] at h
  omega

/-- A term that is not too long. -/
def capC (c : List R2) : Option (List R2) := if c.length ≤ 400 then some c else none
/-- Where the second part of an application begins. -/
def midL (l : List R2) : Nat := (tPos lFol 0 l).toNat
def lamC (ix : Int → Int → Int) (bx : Int → Int) (short : Bool) (dep : Int) (t : List R2) : Option (List R2) :=
  match t with
  | [] => none
  | x :: l =>
    if x.a = 0 then some [⟨4, ix x.b dep⟩]
    else if x.a = 1 then
      match lamC ix bx short (dep + 1) l with
      | none => none
      | some c => capC (absC (bx dep) short c)
    else
      match lamC ix bx short dep (l.take (midL l)) with
      | none => none
      | some d =>
        match lamC ix bx short dep (l.drop (midL l)) with
        | none => none
        | some e => capC (⟨0, 0⟩ :: (d ++ e))
  termination_by t.length
  decreasing_by all_goals simp_wf; try omega
section
variable (ix : Int → Int → Int) (bx : Int → Int) (short : Bool) (dep : Int)
theorem lam_var {x : R2} {l : List R2} (h : x.a = 0) : lamC ix bx short dep (x :: l) = some [⟨4, ix x.b dep⟩] := by rw [lamC, if_pos h]
theorem lam_abs {x : R2} {l : List R2} (h : x.a = 1) : lamC ix bx short dep (x :: l) = match lamC ix bx short (dep + 1) l with | none => none | some c => capC (absC (bx dep) short c) := by
  rw [lamC, if_neg (by omega), if_pos h]
theorem lam_abs_none {x : R2} {l : List R2} (h : x.a = 1) (h1 : lamC ix bx short (dep + 1) l = none) : lamC ix bx short dep (x :: l) = none := by rw [lam_abs _ _ _ _ h, h1]
theorem lam_abs_some {x : R2} {l c : List R2} (h : x.a = 1) (h1 : lamC ix bx short (dep + 1) l = some c) : lamC ix bx short dep (x :: l) = capC (absC (bx dep) short c) := by rw [lam_abs _ _ _ _ h, h1]
theorem lam_app {x : R2} {l : List R2} (h0 : x.a ≠ 0) (h1 : x.a ≠ 1) : lamC ix bx short dep (x :: l) = match lamC ix bx short dep (l.take (midL l)) with | none => none | some d => (match lamC ix bx short dep (l.drop (midL l)) with | none => none | some e => capC (⟨0, 0⟩ :: (d ++ e))) := by
  rw [lamC, if_neg h0, if_neg h1]
theorem lam_app_none1 {x : R2} {l : List R2} (h : x.a = 2) (h1 : lamC ix bx short dep (l.take (midL l)) = none) : lamC ix bx short dep (x :: l) = none := by rw [lam_app _ _ _ _ (by omega) (by omega), h1]
theorem lam_app_none2 {x : R2} {l d : List R2} (h : x.a = 2) (h1 : lamC ix bx short dep (l.take (midL l)) = some d) (h2 : lamC ix bx short dep (l.drop (midL l)) = none) : lamC ix bx short dep (x :: l) = none := by rw [lam_app _ _ _ _ (by omega) (by omega), h1, h2]
theorem lam_app_some {x : R2} {l d e : List R2} (h : x.a = 2) (h1 : lamC ix bx short dep (l.take (midL l)) = some d) (h2 : lamC ix bx short dep (l.drop (midL l)) = some e) : lamC ix bx short dep (x :: l) = capC (⟨0, 0⟩ :: (d ++ e)) := by rw [lam_app _ _ _ _ (by omega) (by omega), h1, h2]
end
theorem capC_yes {c : List R2} (h : c.length ≤ 400) : capC c = some c := by rw [capC, if_pos h]
theorem capC_no {c : List R2} (h : 400 < c.length) : capC c = none := by rw [capC, if_neg (by omega)]
theorem capC_some {c d : List R2} (h : capC c = some d) : c = d ∧ d.length ≤ 400 := by
  unfold capC at h
  split at h
  · injection h with h; subst h; exact ⟨rfl, by assumption⟩
  · cases h

theorem fit_app {α : Type} (fol : α → Nat) (l : List α) : ∀ (a b : Nat) (m : List α), fit fol a l = true → fit fol b m = true → fit fol (a + b) (l ++ m) = true := by
  induction l with
  | nil =>
    intro a b m h1 h2
    cases a with
    | zero => simpa using h2
    | succ a => rw [fit_s0] at h1; cases h1
  | cons x l ih =>
    intro a b m h1 h2
    cases a with
    | zero => rw [fit_0c] at h1; cases h1
    | succ a =>
      rw [fit_sc] at h1
      rw [show a + 1 + b = (a + b) + 1 by omega, List.cons_append, fit_sc, show a + b + fol x = (a + fol x) + b by omega]
      exact ih _ _ _ h1 h2
theorem fit_one0 {k v : Int} (h : k ≠ 0) : fit kFol 1 [⟨k, v⟩] = true := by
  rw [show (1 : Nat) = 0 + 1 from rfl, fit_sc]
  unfold kFol
  rw [if_neg h]
  exact fit_00 kFol
theorem fit_ap {d e : List R2} (h1 : fit kFol 1 d = true) (h2 : fit kFol 1 e = true) : fit kFol 1 (⟨0, 0⟩ :: (d ++ e)) = true := by
  rw [show (1 : Nat) = 0 + 1 from rfl, fit_sc]
  exact fit_app kFol d 1 1 e h1 h2
theorem absC_fit (k : Int) (short : Bool) (N : Nat) : ∀ c : List R2, c.length ≤ N → fit kFol 1 c = true → fit kFol 1 (absC k short c) = true := by
  induction N with
  | zero => intro c h hf; have := fit_ne kFol c 0 hf; omega
  | succ N ih =>
    intro c h hf
    cases h1 : oneV k c with
    | true => rw [abs_one h1]; exact fit_one0 (by decide)
    | false =>
      cases h2 : hasV k c with
      | false => rw [abs_not h1 h2]; exact fit_ap (d := [⟨2, 0⟩]) (fit_one0 (by decide)) hf
      | true =>
        obtain ⟨q, q1, q2, q3, q4, q5, q6⟩ := abs_parts hf h1 h2
        have hd : (c.drop 1).take (midC c - 1) = (c.drop 1).take q := by rw [q3]; rfl
        have he : c.drop (midC c) = c.drop (q + 1) := by rw [q3]
        have ld : ((c.drop 1).take q).length = q := by rw [List.length_take, List.length_drop]; omega
        have le : (c.drop (q + 1)).length = c.length - (q + 1) := List.length_drop
        cases h3 : (short && oneV k (c.drop (q + 1)) && !hasV k ((c.drop 1).take q)) with
        | true => rw [abs_eta h1 h2 hd he h3]; exact q5
        | false =>
          rw [abs_app h1 h2 hd he h3]
          have i1 := ih _ (by omega) q5
          have i2 := ih _ (by omega) q6
          have := fit_ap (fit_ap (d := [⟨1, 0⟩]) (fit_one0 (by decide)) i1) i2
          simpa using this
/-- Which variables an abstraction has. -/
theorem absC_vars (k : Int) (short : Bool) (N : Nat) : ∀ c : List R2, c.length ≤ N → ∀ x ∈ absC k short c, x.a = 4 → x ∈ c ∧ isV k x = false := by
  induction N with
  | zero =>
    intro c h x hx h4
    have hc : c = [] := List.length_eq_zero_iff.1 (by omega)
    subst hc
    rw [abs_not rfl rfl] at hx
    simp at hx
    rcases hx with rfl | rfl <;> simp at h4
  | succ N ih =>
    intro c h x hx h4
    cases h1 : oneV k c with
    | true => rw [abs_one h1] at hx; simp at hx; subst hx; simp at h4
    | false =>
      cases h2 : hasV k c with
      | false =>
        rw [abs_not h1 h2] at hx
        simp only [List.mem_cons] at hx
        rcases hx with rfl | rfl | hx
        · simp at h4
        · simp at h4
        · refine ⟨hx, ?_⟩
          unfold hasV at h2
          rw [List.any_eq_false] at h2
          simpa using h2 x hx
      | true =>
        have hc : 0 < c.length := by
          cases c with
          | nil => simp [hasV] at h2
          | cons y l => simp
        have hm : 1 ≤ midC c := by unfold midC; omega
        cases h3 : (short && oneV k (c.drop (midC c)) && !hasV k ((c.drop 1).take (midC c - 1))) with
        | true =>
          rw [abs_eta h1 h2 rfl rfl h3] at hx
          refine ⟨List.mem_of_mem_drop (List.mem_of_mem_take hx), ?_⟩
          simp only [Bool.and_eq_true, Bool.not_eq_true'] at h3
          have h5 := h3.2
          unfold hasV at h5
          rw [List.any_eq_false] at h5
          simpa using h5 x hx
        | false =>
          rw [abs_app h1 h2 rfl rfl h3] at hx
          simp only [List.mem_cons, List.mem_append] at hx
          rcases hx with rfl | rfl | rfl | hx | hx
          · simp at h4
          · simp at h4
          · simp at h4
          · obtain ⟨i1, i2⟩ := ih _ (by rw [List.length_take, List.length_drop]; omega) x hx h4
            exact ⟨List.mem_of_mem_drop (List.mem_of_mem_take i1), i2⟩
          · obtain ⟨i1, i2⟩ := ih _ (by rw [List.length_drop]; omega) x hx h4
            exact ⟨List.mem_of_mem_drop i1, i2⟩
/-- Renaming. -/
theorem tPosAt_map {α : Type} (fol : α → Nat) (f : α → α) (hf : ∀ x, fol (f x) = fol x) (l : List α) : ∀ a k : Nat, tPosAt fol a k (l.map f) = tPosAt fol a k l := by
  induction l with
  | nil => intro a k; rfl
  | cons x l ih =>
    intro a k
    cases a with
    | zero => rw [tPosAt_zero, tPosAt_zero]
    | succ a => rw [List.map_cons, tPosAt_succ, tPosAt_succ, hf, ih]
def ren (x : R2) : R2 := if x.a = 4 ∧ x.b < 0 then ⟨4, 399 - x.b⟩ else x
theorem ren_not {x : R2} (h : x.a ≠ 4) : ren x = x := by unfold ren; rw [if_neg (fun h2 => h h2.1)]
theorem ren_a (x : R2) : (ren x).a = x.a := by
  unfold ren
  split
  · rename_i h; exact h.1.symm
  · rfl
theorem ren_fol (x : R2) : kFol (ren x) = kFol x := by unfold kFol; rw [ren_a]
theorem midC_ren (c : List R2) : midC (c.map ren) = midC c := by
  unfold midC tPos
  rw [← List.map_drop, tPosAt_map kFol ren ren_fol]
theorem hasV_ren {k k' : Int} {c : List R2} (h : ∀ x ∈ c, isV k' (ren x) = isV k x) : hasV k' (c.map ren) = hasV k c := by
  unfold hasV
  rw [List.any_map]
  induction c with
  | nil => rfl
  | cons x l ih =>
    rw [List.any_cons, List.any_cons, ih (fun y hy => h y (List.mem_cons_of_mem _ hy))]
    rw [show (isV k' ∘ ren) x = isV k' (ren x) from rfl, h x (by simp)]
theorem oneV_ren {k k' : Int} {c : List R2} (h : ∀ x ∈ c, isV k' (ren x) = isV k x) : oneV k' (c.map ren) = oneV k c := by
  match c, h with
  | [], _ => rfl
  | [x], h => exact h x (by simp)
  | _ :: _ :: _, _ => rfl
theorem absC_ren (k k' : Int) (short : Bool) (N : Nat) : ∀ c : List R2, c.length ≤ N → (∀ x ∈ c, isV k' (ren x) = isV k x) → absC k' short (c.map ren) = (absC k short c).map ren := by
  induction N with
  | zero =>
    intro c h _
    have hc : c = [] := List.length_eq_zero_iff.1 (by omega)
    subst hc
    rw [List.map_nil, abs_not rfl rfl, abs_not rfl rfl]
    rfl
  | succ N ih =>
    intro c h hv
    have e1 := oneV_ren hv
    have e2 := hasV_ren hv
    have em := midC_ren c
    have hvd : ∀ x ∈ (c.drop 1).take (midC c - 1), isV k' (ren x) = isV k x := fun x hx => hv x (List.mem_of_mem_drop (List.mem_of_mem_take hx))
    have hve : ∀ x ∈ c.drop (midC c), isV k' (ren x) = isV k x := fun x hx => hv x (List.mem_of_mem_drop hx)
    have hd : ((c.map ren).drop 1).take (midC (c.map ren) - 1) = ((c.drop 1).take (midC c - 1)).map ren := by rw [em, List.map_take, List.map_drop]
    have he : (c.map ren).drop (midC (c.map ren)) = (c.drop (midC c)).map ren := by rw [em, List.map_drop]
    have e3 := oneV_ren hve
    have e4 := hasV_ren hvd
    cases h1 : oneV k c with
    | true => rw [abs_one (e1.trans h1), abs_one h1]; rfl
    | false =>
      cases h2 : hasV k c with
      | false => rw [abs_not (e1.trans h1) (e2.trans h2), abs_not h1 h2]; rfl
      | true =>
        have hc : 0 < c.length := by
          cases c with
          | nil => simp [hasV] at h2
          | cons y l => simp
        have hm : 1 ≤ midC c := by unfold midC; omega
        cases h3 : (short && oneV k (c.drop (midC c)) && !hasV k ((c.drop 1).take (midC c - 1))) with
        | true => rw [abs_eta (e1.trans h1) (e2.trans h2) hd he (by rw [e3, e4]; exact h3), abs_eta h1 h2 rfl rfl h3]
        | false =>
          rw [abs_app (e1.trans h1) (e2.trans h2) hd he (by rw [e3, e4]; exact h3), abs_app h1 h2 rfl rfl h3]
          rw [ih _ (by rw [List.length_take, List.length_drop]; omega) hvd, ih _ (by rw [List.length_drop]; omega) hve]
          simp only [List.map_cons, List.map_append]
          rfl
def ixI (i d : Int) : Int := i - d
def bxI (d : Int) : Int := -1 - d
def ixS (i d : Int) : Int := if i - d < 0 then 400 + d - 1 - i else i - d
def bxS (d : Int) : Int := 400 + d
theorem midL_le (l : List R2) : midL l ≤ l.length := by
  unfold midL tPos
  have := tPosAt_le lFol l 1 0
  omega
/-- What is true of each term that is given. -/
theorem lamC_facts (short : Bool) (N : Nat) : ∀ (t : List R2) (dep : Int) (c : List R2), t.length ≤ N → t.all lOk = true → 0 ≤ dep → lamC ixI bxI short dep t = some c →
    c.length ≤ 400 ∧ fit kFol 1 c = true ∧ (∀ x ∈ c, x.a = 4 → -dep ≤ x.b ∧ x.b ≤ 399) ∧ lamC ixS bxS short dep t = some (c.map ren) := by
  induction N with
  | zero => intro t dep c h _ _ hc; have : t = [] := List.length_eq_zero_iff.1 (by omega); subst this; rw [lamC] at hc; cases hc
  | succ N ih =>
    intro t dep c h hok hdep hc
    cases t with
    | nil => rw [lamC] at hc; cases hc
    | cons x l =>
      simp only [List.all_cons, Bool.and_eq_true] at hok
      have hx := lOk_cases hok.1
      have hl : l.length ≤ N := by simp at h; omega
      have hall : ∀ m, (l.take m).all lOk = true ∧ (l.drop m).all lOk = true := fun m => ⟨List.all_eq_true.2 fun y hy => List.all_eq_true.1 hok.2 y (List.mem_of_mem_take hy), List.all_eq_true.2 fun y hy => List.all_eq_true.1 hok.2 y (List.mem_of_mem_drop hy)⟩
      by_cases h0 : x.a = 0
      · rw [lam_var _ _ _ _ h0] at hc
        injection hc with hc
        subst hc
        refine ⟨by simp, fit_one0 (by decide), ?_, ?_⟩
        · intro y hy _
          simp at hy
          subst hy
          simp only [ixI]
          omega
        · rw [lam_var _ _ _ _ h0]
          have e : ren ⟨4, ixI x.b dep⟩ = ⟨4, ixS x.b dep⟩ := by
            unfold ixS ixI
            by_cases hn : x.b - dep < 0
            · rw [ren, if_pos ⟨rfl, hn⟩, if_pos hn]
              exact R2.ext' rfl (by show 399 - (x.b - dep) = 400 + dep - 1 - x.b; omega)
            · rw [ren, if_neg (fun h => hn h.2), if_neg hn]
          rw [List.map_cons, List.map_nil, e]
      · by_cases h1 : x.a = 1
        · cases h2 : lamC ixI bxI short (dep + 1) l with
          | none => rw [lam_abs_none _ _ _ _ h1 h2] at hc; cases hc
          | some b =>
            rw [lam_abs_some _ _ _ _ h1 h2] at hc
            obtain ⟨hc, hlen⟩ := capC_some hc
            obtain ⟨f1, f2, f3, f4⟩ := ih l (dep + 1) b hl hok.2 (by omega) h2
            have hv : ∀ y ∈ b, isV (bxS dep) (ren y) = isV (bxI dep) y := by
              intro y hy
              unfold isV bxS bxI
              rw [ren_a]
              by_cases h4 : y.a = 4
              · have := f3 y hy h4
                rw [decide_eq_true h4, Bool.true_and, Bool.true_and]
                unfold ren
                by_cases hn : y.b < 0
                · rw [if_pos ⟨h4, hn⟩]
                  simp only [decide_eq_decide]
                  omega
                · rw [if_neg (fun h => hn h.2)]
                  simp only [decide_eq_decide]
                  omega
              · simp [h4]
            refine ⟨hlen, hc ▸ absC_fit _ short _ b (Nat.le_refl _) f2, ?_, ?_⟩
            · intro y hy h4
              rw [← hc] at hy
              obtain ⟨g1, g2⟩ := absC_vars _ short _ b (Nat.le_refl _) y hy h4
              have := f3 y g1 h4
              unfold isV bxI at g2
              simp [h4] at g2
              omega
            · rw [lam_abs_some _ _ _ _ h1 f4, absC_ren _ _ short _ b (Nat.le_refl _) hv, hc, capC_yes (by simpa using hlen)]
        · have h2' : x.a = 2 := by omega
          cases h2 : lamC ixI bxI short dep (l.take (midL l)) with
          | none => rw [lam_app_none1 _ _ _ _ h2' h2] at hc; cases hc
          | some d =>
            cases h3 : lamC ixI bxI short dep (l.drop (midL l)) with
            | none => rw [lam_app_none2 _ _ _ _ h2' h2 h3] at hc; cases hc
            | some e =>
              rw [lam_app_some _ _ _ _ h2' h2 h3] at hc
              obtain ⟨hc, hlen⟩ := capC_some hc
              obtain ⟨f1, f2, f3, f4⟩ := ih _ dep d (by rw [List.length_take]; omega) (hall _).1 hdep h2
              obtain ⟨g1, g2, g3, g4⟩ := ih _ dep e (by rw [List.length_drop]; omega) (hall _).2 hdep h3
              refine ⟨hlen, hc ▸ fit_ap f2 g2, ?_, ?_⟩
              · intro y hy h4
                rw [← hc] at hy
                simp only [List.mem_cons, List.mem_append] at hy
                rcases hy with rfl | hy | hy
                · simp at h4
                · exact f3 y hy h4
                · exact g3 y hy h4
              · rw [lam_app_some _ _ _ _ h2' f4 g4, ← hc]
                have : (⟨0, 0⟩ :: (d.map ren ++ e.map ren) : List R2) = (⟨0, 0⟩ :: (d ++ e) : List R2).map ren := by simp only [List.map_cons, List.map_append]; rfl
                rw [this, capC_yes (by rw [List.length_map, hc]; exact hlen)]
theorem lamC_none (short : Bool) (N : Nat) : ∀ (t : List R2) (dep : Int), t.length ≤ N → t.all lOk = true → 0 ≤ dep → lamC ixI bxI short dep t = none → lamC ixS bxS short dep t = none := by
  induction N with
  | zero => intro t dep h _ _ hc; have : t = [] := List.length_eq_zero_iff.1 (by omega); subst this; rw [lamC]
  | succ N ih =>
    intro t dep h hok hdep hc
    cases t with
    | nil => rw [lamC]
    | cons x l =>
      simp only [List.all_cons, Bool.and_eq_true] at hok
      have hx := lOk_cases hok.1
      have hl : l.length ≤ N := by simp at h; omega
      have hall : ∀ m, (l.take m).all lOk = true ∧ (l.drop m).all lOk = true := fun m => ⟨List.all_eq_true.2 fun y hy => List.all_eq_true.1 hok.2 y (List.mem_of_mem_take hy), List.all_eq_true.2 fun y hy => List.all_eq_true.1 hok.2 y (List.mem_of_mem_drop hy)⟩
      by_cases h0 : x.a = 0
      · rw [lam_var _ _ _ _ h0] at hc; cases hc
      · by_cases h1 : x.a = 1
        · cases h2 : lamC ixI bxI short (dep + 1) l with
          | none => rw [lam_abs_none _ _ _ _ h1 (ih l (dep + 1) hl hok.2 (by omega) h2)]
          | some b =>
            rw [lam_abs_some _ _ _ _ h1 h2] at hc
            obtain ⟨f1, f2, f3, f4⟩ := lamC_facts short _ l (dep + 1) b (Nat.le_refl _) hok.2 (by omega) h2
            have hv : ∀ y ∈ b, isV (bxS dep) (ren y) = isV (bxI dep) y := by
              intro y hy
              unfold isV bxS bxI
              rw [ren_a]
              by_cases h4 : y.a = 4
              · have := f3 y hy h4
                rw [decide_eq_true h4, Bool.true_and, Bool.true_and]
                unfold ren
                by_cases hn : y.b < 0
                · rw [if_pos ⟨h4, hn⟩]
                  simp only [decide_eq_decide]
                  omega
                · rw [if_neg (fun h => hn h.2)]
                  simp only [decide_eq_decide]
                  omega
              · simp [h4]
            rw [lam_abs_some _ _ _ _ h1 f4, absC_ren _ _ short _ b (Nat.le_refl _) hv]
            unfold capC at hc ⊢
            rw [List.length_map]
            split at hc
            · cases hc
            · rename_i hh; rw [if_neg hh]
        · have h2' : x.a = 2 := by omega
          cases h2 : lamC ixI bxI short dep (l.take (midL l)) with
          | none => rw [lam_app_none1 _ _ _ _ h2' (ih _ dep (by rw [List.length_take]; omega) (hall _).1 hdep h2)]
          | some d =>
            obtain ⟨f1, f2, f3, f4⟩ := lamC_facts short _ _ dep d (Nat.le_refl _) (hall _).1 hdep h2
            cases h3 : lamC ixI bxI short dep (l.drop (midL l)) with
            | none => rw [lam_app_none2 _ _ _ _ h2' f4 (ih _ dep (by rw [List.length_drop]; omega) (hall _).2 hdep h3)]
            | some e =>
              obtain ⟨g1, g2, g3, g4⟩ := lamC_facts short _ _ dep e (Nat.le_refl _) (hall _).2 hdep h3
              rw [lam_app_some _ _ _ _ h2' h2 h3] at hc
              rw [lam_app_some _ _ _ _ h2' f4 g4]
              unfold capC at hc ⊢
              split at hc
              · cases hc
              · rename_i hh; rw [if_neg (by simpa using hh)]
/-- What LamToComb gives. -/
def lamToComb (t : List R2) (short : Bool) : List R2 × Int := if validT t then (match lamC ixI bxI short 0 t with | some c => (c, 0) | none => ([], 5)) else ([], 1)
theorem ren_id {c : List R2} (h : ∀ x ∈ c, x.a = 4 → 0 ≤ x.b) : c.map ren = c := by
  induction c with
  | nil => rfl
  | cons x l ih =>
    rw [List.map_cons, ih fun y hy => h y (List.mem_cons_of_mem _ hy)]
    congr 1
    unfold ren
    rw [if_neg]
    rintro ⟨h1, h2⟩
    have := h x (by simp) h1
    omega
theorem lamC_same (short : Bool) {t : List R2} (h : t.all lOk = true) : lamC ixS bxS short 0 t = lamC ixI bxI short 0 t := by
  cases h1 : lamC ixI bxI short 0 t with
  | none => exact lamC_none short _ t 0 (Nat.le_refl _) h (by omega) h1
  | some c =>
    obtain ⟨f1, f2, f3, f4⟩ := lamC_facts short _ t 0 c (Nat.le_refl _) h (by omega) h1
    rw [f4, ren_id fun x hx h4 => by have := f3 x hx h4; omega]
theorem bndLamToComb0 (t : List R2) (short : Bool) (h : t.length ≤ 1048576) : (lamToComb t short).1.length ≤ 1048576 := by
  unfold lamToComb
  split
  · rename_i hv
    have hok : t.all lOk = true := by unfold validT at hv; exact (Bool.and_eq_true _ _ ▸ (Bool.and_eq_true _ _ ▸ hv).2).1
    cases h1 : lamC ixI bxI short 0 t with
    | none => simp
    | some c => have := (lamC_facts short _ t 0 c (Nat.le_refl _) hok (by omega) h1).1; simp only; omega
  · simp
end Go.Proofs.YtgcedfpjgdeakaaDoor
