/- The law FnExactStepCost returns true for every input, and each argument reads afterwards as before: the proof, part 6. No conditions. -/
import Derived.Test.YtdnkkmmkkfbhhaaStepCostZe
import Derived.Deep.DeepCutAuto
import Derived.Deep.RegionLaw
/- The reference's number of instructions for a symbol and its rule: l14Part. -/
namespace Go.Proofs.Ytdnkkmmkkfbhhaa
open Go.RowKit
set_option linter.all false

theorem takeD {P : Program} {ops : Array Oper} {Q : Exit → Act → World → Prop} {md : Region.Mode} {S : World → Prop} {i : Nat} {oi : Oper} {d : Option Nat} {v : Value} {fuel : Nat} {listed : Array Bool} {a : Act} {w : World} (hi : ops[i]? = some oi) (hd : oi.dst = d)
    (hs : Region.noSelect ops = true) (hf : Region.free md ops listed i = true) (hr : (Region.ready md ops listed).contains i = true)
    (hQ : ∀ c a w, Q (.panic c) (a.put d v) w → Q (.panic c) a w) (hy : YieldsIf P ops S oi v a) (hS : S w)
    (h : wpAnyH P md ops Q S fuel (listed.setIfInBounds i true) (a.put d v) w) : wpAnyH P md ops Q S (fuel + 1) listed a w := by
  subst hd; exact wpAnyH_take hi hs hf hr hQ hy hS h
theorem neRuleG (op : BinOp) (a b : Operand) (xs ys : Array Value) (w : World) : Sem.run Try.prog (eqGuard op 59 a b (.agg xs) (.agg ys)) w = .ok () w := run_eqGuard_agg w op 59 a b xs ys (by kernel_rfl)

set_option maxRecDepth 100000 in
set_option maxHeartbeats 4000000 in
theorem l14Part_any (gm s v : Nat) (S Q : Int) (x : R3) (w : World) (m0 : w.cell? ⟨gm, 0, none⟩ = some (.int .i64 s)) (hs : 1 ≤ s) (hs6 : s ≤ 6) (hv : v ≤ 6) (hS : S = s) (hx : ruleB S Q x = true) :
    Calls Try.prog 42 #[.pointer (some ⟨gm, 0, none⟩), .agg #[.int .i64 x.a, .int .i64 x.b, .int .i64 x.c], .int .i64 v] w fun e w' => e = .returned (.int .i64 (partLen s x v)) ∧ Below w.heap.size w w' := by
  obtain ⟨w1, HW1, B1, x1⟩ := al1 w (.cells #[.int .i64 x.a, .int .i64 x.b, .int .i64 x.c] 59)
  have r0 : w1.cell? ⟨w.heap.size, 0, none⟩ = some (.int .i64 x.a) := by rw [cell_of_heap x1]; rfl
  have r1 : w1.cell? ⟨w.heap.size, 1, none⟩ = some (.int .i64 x.b) := by rw [cell_of_heap x1]; rfl
  have r2 : w1.cell? ⟨w.heap.size, 2, none⟩ = some (.int .i64 x.c) := by rw [cell_of_heap x1]; rfl
  have n0 := cell_step m0 B1
  have HN0 := Lib.hid n0
  have HB1 := Lib.hid B1
  have HHD : Hid (∀ W, W.cell? ⟨gm, 0, none⟩ = some (.int .i64 s) → Calls Try.prog 60 #[.pointer (some ⟨gm, 0, none⟩), .agg #[.int .i64 x.a, .int .i64 x.b, .int .i64 x.c], .int .i64 v] W (HeadPost (headLen s x v) W)) := fun W hW => l14Head_any gm s v S Q x W hW hs hs6 hv hS hx
  have hgd := guardRule
  clear x1 B1 m0
  rcases ruleB_cases hx with h0 | ⟨h0, hmv, ha, ha2, hc, hc2⟩
  · have HF : Hid (partLen s x v = s + 1 + v) := by unfold Hid partLen; rw [if_pos h0]
    have hh : headLen s x v = s + 1 + v := by unfold headLen; rw [if_pos h0]
    rw [hh] at HHD
    rw [HF.out]
    have hq := neRule_run x false (by rw [h0]; rfl)
    clear h0 hx hh
    go_enter Try.func42, Try.ntmps42
    go_wp2_with fail
    rw [← HW1.out]
    refine (HHD.out w1 HN0.out).mono ?_
    rintro e w2 ⟨⟨A2, n2, c2, xs2, rfl, hl2, hn2⟩, b2⟩
    have HL2 := Lib.hid hl2
    have HN2 := Lib.hid hn2
    replace r0 := cell_step r0 b2; replace r1 := cell_step r1 b2; replace r2 := cell_step r2 b2; replace n0 := cell_step n0 b2
    have HB2 := Lib.hid (below_step HB1.out b2)
    clear hl2 b2 hn2
    go_wp2_with fail
    refine (l14Length_any _ n2 (s + 1 + v) c2 A2 xs2 _ HL2.out (by have := HN2.out; omega)).mono ?_
    rintro e w' ⟨rfl, rfl⟩
    have BX := Below.refl w2.heap.size w2
    go_upto_region 2 with fail
    refine wp_region_held_drew (S := fun W => W.cell? ⟨w.heap.size, 0, none⟩ = some (.int .i64 x.a) ∧ W.cell? ⟨w.heap.size, 1, none⟩ = some (.int .i64 x.b) ∧ W.cell? ⟨w.heap.size, 2, none⟩ = some (.int .i64 x.c)) (by kernel_rfl) ?_ (fun hHeld => ?_)
    · (try dsimp only); (first | go_keep | exact ⟨r0, r1, r2⟩)
    refine takeD (i := 0) (v := ?_) (d := some 15) rfl rfl (by kernel_rfl) (by kernel_rfl) (by kernel_rfl) (fun _ _ _ h => h) (Or.inl ⟨by kernel_rfl, ?hya0⟩) (by assumption) ?resta0
    case hya0 => first | (intro w hSw; (try dsimp only at hSw); go_simp; done) | (intro w hSw; (try dsimp only at hSw); go_simp; with_reducible rfl)
    (try simp only [Act.put, List.setIfInBounds_toArray, List.set_cons_zero, List.set_cons_succ])
    refine wpAnyH_ready (rs := [1]) (by kernel_rfl) (by simp) ?_
    refine AllReadyH.cons rfl (fun K hK => ?_) AllReadyH.nil
    go_simp
    (go_at_call 32; refine (l05None_any _).mono ?_; rintro e x2 ⟨rfl, bb⟩; replace bb := below_drew_at bb; replace r0 := cell_step (by exact r0) bb; replace r1 := cell_step (by exact r1) bb; replace r2 := cell_step (by exact r2) bb; replace n0 := cell_step (by exact n0) bb; replace BX := below_step BX bb; clear bb)
    (try go_wp2_with fail)
    refine hK.out _ _ ?_ (fun hHeld => ?_)
    · (try dsimp only); (first | go_keep | exact ⟨r0, r1, r2⟩)
    clear hK K
    (try simp only [Act.put, List.setIfInBounds_toArray, List.set_cons_zero, List.set_cons_succ])
    refine takeD (i := 2) (v := ?_) (d := some 17) rfl rfl (by kernel_rfl) (by kernel_rfl) (by kernel_rfl) (fun _ _ _ h => h) (Or.inl ⟨by kernel_rfl, ?hya2⟩) (by assumption) ?resta2
    case hya2 => first | (intro w hSw; (try dsimp only at hSw); go_simp; done) | (intro w hSw; (try dsimp only at hSw); go_simp; with_reducible rfl)
    (try simp only [Act.put, List.setIfInBounds_toArray, List.set_cons_zero, List.set_cons_succ])
    refine takeD (i := 3) (v := ?_) (d := some 18) rfl rfl (by kernel_rfl) (by kernel_rfl) (by kernel_rfl) (fun _ _ _ h => h) (Or.inl ⟨by kernel_rfl, ?hya3⟩) (by assumption) ?resta3
    case hya3 => first | (intro w hSw; (try dsimp only at hSw); go_simp; done) | (intro w hSw; (try dsimp only at hSw); go_simp; with_reducible rfl)
    (try simp only [Act.put, List.setIfInBounds_toArray, List.set_cons_zero, List.set_cons_succ])
    refine takeD (i := 4) (v := undef) (d := some 19) rfl rfl (by kernel_rfl) (by kernel_rfl) (by kernel_rfl) (fun _ _ _ h => h) (Or.inr ⟨by kernel_rfl, rfl⟩) (by assumption) ?_
    (try simp only [Act.put, List.setIfInBounds_toArray, List.set_cons_zero, List.set_cons_succ])
    refine takeD (i := 5) (v := undef) (d := some 20) rfl rfl (by kernel_rfl) (by kernel_rfl) (by kernel_rfl) (fun _ _ _ h => h) (Or.inr ⟨by kernel_rfl, rfl⟩) (by assumption) ?_
    (try simp only [Act.put, List.setIfInBounds_toArray, List.set_cons_zero, List.set_cons_succ])
    refine takeD (i := 6) (v := undef) (d := some 21) rfl rfl (by kernel_rfl) (by kernel_rfl) (by kernel_rfl) (fun _ _ _ h => h) (Or.inr ⟨by kernel_rfl, rfl⟩) (by assumption) ?_
    (try simp only [Act.put, List.setIfInBounds_toArray, List.set_cons_zero, List.set_cons_succ])
    refine takeD (i := 7) (v := ?_) (d := some 22) rfl rfl (by kernel_rfl) (by kernel_rfl) (by kernel_rfl) (fun _ _ _ h => h) (Or.inl ⟨by kernel_rfl, ?hya7⟩) (by assumption) ?resta7
    case hya7 => first | (intro w hSw; (try dsimp only at hSw); go_simp; done) | (intro w hSw; (try dsimp only at hSw); go_simp; with_reducible rfl)
    (try simp only [Act.put, List.setIfInBounds_toArray, List.set_cons_zero, List.set_cons_succ])
    refine wpAnyH_done (by kernel_rfl) ?_ _
    have HBX := Lib.hid (below_step HB2.out BX)
    clear r0 r1 r2 n0 BX
    go_wp2_with fail
    go_ret
    exact ⟨rfl, HBX.out⟩
  obtain ⟨xa, xb, xc⟩ := x
  dsimp only at hmv ha ha2 hc hc2 r0 r1 r2 hx h0 HHD ⊢
  obtain ⟨wa, rfl⟩ : ∃ wa : Nat, xa = wa := ⟨xa.toNat, by omega⟩
  have hq := neRule_run ⟨wa, xb, xc⟩ true (by rw [h0]; rfl)
  dsimp only at hq
  have hwa : wa ≤ 5 := by omega
  rcases hmv with rfl | rfl
  · have HF : Hid (partLen s ⟨wa, 1, xc⟩ v = s + 5 + wa) := by unfold Hid partLen; rw [if_neg (by rw [h0]; decide), if_pos rfl]; simp
    have hh : headLen s ⟨wa, 1, xc⟩ v = s + 5 + wa := by unfold headLen; rw [if_neg (by rw [h0]; decide), if_pos rfl]; simp
    rw [hh] at HHD
    rw [HF.out]
    clear h0 hx hc hc2 ha ha2 hh
    go_enter Try.func42, Try.ntmps42
    go_wp2_with fail
    rw [← HW1.out]
    refine (HHD.out w1 HN0.out).mono ?_
    rintro e w2 ⟨⟨A2, n2, c2, xs2, rfl, hl2, hn2⟩, b2⟩
    have HL2 := Lib.hid hl2
    have HN2 := Lib.hid hn2
    replace r0 := cell_step r0 b2; replace r1 := cell_step r1 b2; replace r2 := cell_step r2 b2; replace n0 := cell_step n0 b2
    have HB2 := Lib.hid (below_step HB1.out b2)
    clear hl2 b2 hn2
    go_wp2_with fail
    refine (l14Length_any _ n2 (s + 5 + wa) c2 A2 xs2 _ HL2.out (by have := HN2.out; omega)).mono ?_
    rintro e w' ⟨rfl, rfl⟩
    have BX := Below.refl w2.heap.size w2
    go_upto_region 2 with fail
    refine wp_region_held_drew (S := fun W => W.cell? ⟨w.heap.size, 0, none⟩ = some (.int .i64 wa) ∧ W.cell? ⟨w.heap.size, 1, none⟩ = some (.int .i64 1) ∧ W.cell? ⟨w.heap.size, 2, none⟩ = some (.int .i64 xc)) (by kernel_rfl) ?_ (fun hHeld => ?_)
    · (try dsimp only); (first | go_keep | exact ⟨r0, r1, r2⟩)
    refine takeD (i := 0) (v := ?_) (d := some 15) rfl rfl (by kernel_rfl) (by kernel_rfl) (by kernel_rfl) (fun _ _ _ h => h) (Or.inl ⟨by kernel_rfl, ?hyb0⟩) (by assumption) ?restb0
    case hyb0 => first | (intro w hSw; (try dsimp only at hSw); go_simp; done) | (intro w hSw; (try dsimp only at hSw); go_simp; with_reducible rfl)
    (try simp only [Act.put, List.setIfInBounds_toArray, List.set_cons_zero, List.set_cons_succ])
    refine wpAnyH_ready (rs := [1]) (by kernel_rfl) (by simp) ?_
    refine AllReadyH.cons rfl (fun K hK => ?_) AllReadyH.nil
    go_simp
    (go_at_call 32; refine (l05None_any _).mono ?_; rintro e x2 ⟨rfl, bb⟩; replace bb := below_drew_at bb; replace r0 := cell_step (by exact r0) bb; replace r1 := cell_step (by exact r1) bb; replace r2 := cell_step (by exact r2) bb; replace n0 := cell_step (by exact n0) bb; replace BX := below_step BX bb; clear bb)
    (try go_wp2_with fail)
    refine hK.out _ _ ?_ (fun hHeld => ?_)
    · (try dsimp only); (first | go_keep | exact ⟨r0, r1, r2⟩)
    clear hK K
    (try simp only [Act.put, List.setIfInBounds_toArray, List.set_cons_zero, List.set_cons_succ])
    refine takeD (i := 2) (v := ?_) (d := some 17) rfl rfl (by kernel_rfl) (by kernel_rfl) (by kernel_rfl) (fun _ _ _ h => h) (Or.inl ⟨by kernel_rfl, ?hyb2⟩) (by assumption) ?restb2
    case hyb2 => first | (intro w hSw; (try dsimp only at hSw); go_simp; done) | (intro w hSw; (try dsimp only at hSw); go_simp; with_reducible rfl)
    (try simp only [Act.put, List.setIfInBounds_toArray, List.set_cons_zero, List.set_cons_succ])
    refine takeD (i := 3) (v := ?_) (d := some 18) rfl rfl (by kernel_rfl) (by kernel_rfl) (by kernel_rfl) (fun _ _ _ h => h) (Or.inl ⟨by kernel_rfl, ?hyb3⟩) (by assumption) ?restb3
    case hyb3 => first | (intro w hSw; (try dsimp only at hSw); go_simp; done) | (intro w hSw; (try dsimp only at hSw); go_simp; with_reducible rfl)
    (try simp only [Act.put, List.setIfInBounds_toArray, List.set_cons_zero, List.set_cons_succ])
    refine takeD (i := 4) (v := ?_) (d := some 19) rfl rfl (by kernel_rfl) (by kernel_rfl) (by kernel_rfl) (fun _ _ _ h => h) (Or.inl ⟨by kernel_rfl, ?hyb4⟩) (by assumption) ?restb4
    case hyb4 => first | (intro w hSw; (try dsimp only at hSw); go_simp; done) | (intro w hSw; (try dsimp only at hSw); go_simp; with_reducible rfl)
    (try simp only [Act.put, List.setIfInBounds_toArray, List.set_cons_zero, List.set_cons_succ])
    refine takeD (i := 5) (v := ?_) (d := some 20) rfl rfl (by kernel_rfl) (by kernel_rfl) (by kernel_rfl) (fun _ _ _ h => h) (Or.inl ⟨by kernel_rfl, ?hyb5⟩) (by assumption) ?restb5
    case hyb5 => first | (intro w hSw; (try dsimp only at hSw); go_simp; done) | (intro w hSw; (try dsimp only at hSw); go_simp; with_reducible rfl)
    (try simp only [Act.put, List.setIfInBounds_toArray, List.set_cons_zero, List.set_cons_succ])
    refine takeD (i := 6) (v := ?_) (d := some 21) rfl rfl (by kernel_rfl) (by kernel_rfl) (by kernel_rfl) (fun _ _ _ h => h) (Or.inl ⟨by kernel_rfl, ?hyb6⟩) (by assumption) ?restb6
    case hyb6 => first | (intro w hSw; (try dsimp only at hSw); go_simp; done) | (intro w hSw; (try dsimp only at hSw); go_simp; with_reducible rfl)
    (try simp only [Act.put, List.setIfInBounds_toArray, List.set_cons_zero, List.set_cons_succ])
    refine takeD (i := 7) (v := ?_) (d := some 22) rfl rfl (by kernel_rfl) (by kernel_rfl) (by kernel_rfl) (fun _ _ _ h => h) (Or.inl ⟨by kernel_rfl, ?hyb7⟩) (by assumption) ?restb7
    case hyb7 => first | (intro w hSw; (try dsimp only at hSw); go_simp; done) | (intro w hSw; (try dsimp only at hSw); go_simp; with_reducible rfl)
    (try simp only [Act.put, List.setIfInBounds_toArray, List.set_cons_zero, List.set_cons_succ])
    refine wpAnyH_done (by kernel_rfl) ?_ _
    have HBX := Lib.hid (below_step HB2.out BX)
    clear r0 r1 r2 n0 BX
    go_wp2_with fail
    go_ret
    exact ⟨rfl, HBX.out⟩
  · have HF : Hid (partLen s ⟨wa, -1, xc⟩ v = s + 1 + wa + leftLen s) := by unfold Hid partLen; rw [if_neg (by rw [h0]; decide), if_neg (by dsimp only; omega)]; simp
    have hh : headLen s ⟨wa, -1, xc⟩ v = s + 1 + wa := by unfold headLen; rw [if_neg (by rw [h0]; decide), if_neg (by dsimp only; omega)]; simp
    rw [hh] at HHD
    rw [HF.out]
    clear h0 hx hc hc2 ha ha2 hh
    go_enter Try.func42, Try.ntmps42
    go_wp2_with fail
    rw [← HW1.out]
    refine (HHD.out w1 HN0.out).mono ?_
    rintro e w2 ⟨⟨A2, n2, c2, xs2, rfl, hl2, hn2⟩, b2⟩
    have HL2 := Lib.hid hl2
    have HN2 := Lib.hid hn2
    replace r0 := cell_step r0 b2; replace r1 := cell_step r1 b2; replace r2 := cell_step r2 b2; replace n0 := cell_step n0 b2
    have HB2 := Lib.hid (below_step HB1.out b2)
    clear hl2 b2 hn2
    go_wp2_with fail
    refine (l14Length_any _ n2 (s + 1 + wa) c2 A2 xs2 _ HL2.out (by have := HN2.out; omega)).mono ?_
    rintro e w' ⟨rfl, rfl⟩
    have BX := Below.refl w2.heap.size w2
    go_upto_region 2 with fail
    refine wp_region_held_drew (S := fun W => W.cell? ⟨w.heap.size, 0, none⟩ = some (.int .i64 wa) ∧ W.cell? ⟨w.heap.size, 1, none⟩ = some (.int .i64 (-1)) ∧ W.cell? ⟨w.heap.size, 2, none⟩ = some (.int .i64 xc)) (by kernel_rfl) ?_ (fun hHeld => ?_)
    · (try dsimp only); (first | go_keep | exact ⟨r0, r1, r2⟩)
    refine takeD (i := 0) (v := ?_) (d := some 15) rfl rfl (by kernel_rfl) (by kernel_rfl) (by kernel_rfl) (fun _ _ _ h => h) (Or.inl ⟨by kernel_rfl, ?hyc0⟩) (by assumption) ?restc0
    case hyc0 => first | (intro w hSw; (try dsimp only at hSw); go_simp; done) | (intro w hSw; (try dsimp only at hSw); go_simp; with_reducible rfl)
    (try simp only [Act.put, List.setIfInBounds_toArray, List.set_cons_zero, List.set_cons_succ])
    refine wpAnyH_ready (rs := [1]) (by kernel_rfl) (by simp) ?_
    refine AllReadyH.cons rfl (fun K hK => ?_) AllReadyH.nil
    go_simp
    (go_at_call 32; refine (l05None_any _).mono ?_; rintro e x2 ⟨rfl, bb⟩; replace bb := below_drew_at bb; replace r0 := cell_step (by exact r0) bb; replace r1 := cell_step (by exact r1) bb; replace r2 := cell_step (by exact r2) bb; replace n0 := cell_step (by exact n0) bb; replace BX := below_step BX bb; clear bb)
    (try go_wp2_with fail)
    refine hK.out _ _ ?_ (fun hHeld => ?_)
    · (try dsimp only); (first | go_keep | exact ⟨r0, r1, r2⟩)
    clear hK K
    (try simp only [Act.put, List.setIfInBounds_toArray, List.set_cons_zero, List.set_cons_succ])
    refine takeD (i := 2) (v := ?_) (d := some 17) rfl rfl (by kernel_rfl) (by kernel_rfl) (by kernel_rfl) (fun _ _ _ h => h) (Or.inl ⟨by kernel_rfl, ?hyc2⟩) (by assumption) ?restc2
    case hyc2 => first | (intro w hSw; (try dsimp only at hSw); go_simp; done) | (intro w hSw; (try dsimp only at hSw); go_simp; with_reducible rfl)
    (try simp only [Act.put, List.setIfInBounds_toArray, List.set_cons_zero, List.set_cons_succ])
    refine takeD (i := 3) (v := ?_) (d := some 18) rfl rfl (by kernel_rfl) (by kernel_rfl) (by kernel_rfl) (fun _ _ _ h => h) (Or.inl ⟨by kernel_rfl, ?hyc3⟩) (by assumption) ?restc3
    case hyc3 => first | (intro w hSw; (try dsimp only at hSw); go_simp; done) | (intro w hSw; (try dsimp only at hSw); go_simp; with_reducible rfl)
    (try simp only [Act.put, List.setIfInBounds_toArray, List.set_cons_zero, List.set_cons_succ])
    refine takeD (i := 4) (v := ?_) (d := some 19) rfl rfl (by kernel_rfl) (by kernel_rfl) (by kernel_rfl) (fun _ _ _ h => h) (Or.inl ⟨by kernel_rfl, ?hyc4⟩) (by assumption) ?restc4
    case hyc4 => first | (intro w hSw; (try dsimp only at hSw); go_simp; done) | (intro w hSw; (try dsimp only at hSw); go_simp; with_reducible rfl)
    (try simp only [Act.put, List.setIfInBounds_toArray, List.set_cons_zero, List.set_cons_succ])
    refine takeD (i := 5) (v := ?_) (d := some 20) rfl rfl (by kernel_rfl) (by kernel_rfl) (by kernel_rfl) (fun _ _ _ h => h) (Or.inl ⟨by kernel_rfl, ?hyc5⟩) (by assumption) ?restc5
    case hyc5 => first | (intro w hSw; (try dsimp only at hSw); go_simp; done) | (intro w hSw; (try dsimp only at hSw); go_simp; with_reducible rfl)
    (try simp only [Act.put, List.setIfInBounds_toArray, List.set_cons_zero, List.set_cons_succ])
    refine takeD (i := 6) (v := ?_) (d := some 21) rfl rfl (by kernel_rfl) (by kernel_rfl) (by kernel_rfl) (fun _ _ _ h => h) (Or.inl ⟨by kernel_rfl, ?hyc6⟩) (by assumption) ?restc6
    case hyc6 => first | (intro w hSw; (try dsimp only at hSw); go_simp; done) | (intro w hSw; (try dsimp only at hSw); go_simp; with_reducible rfl)
    (try simp only [Act.put, List.setIfInBounds_toArray, List.set_cons_zero, List.set_cons_succ])
    refine takeD (i := 7) (v := ?_) (d := some 22) rfl rfl (by kernel_rfl) (by kernel_rfl) (by kernel_rfl) (fun _ _ _ h => h) (Or.inl ⟨by kernel_rfl, ?hyc7⟩) (by assumption) ?restc7
    case hyc7 => first | (intro w hSw; (try dsimp only at hSw); go_simp; done) | (intro w hSw; (try dsimp only at hSw); go_simp; with_reducible rfl)
    (try simp only [Act.put, List.setIfInBounds_toArray, List.set_cons_zero, List.set_cons_succ])
    refine wpAnyH_done (by kernel_rfl) ?_ _
    have HBX := Lib.hid (below_step HB2.out BX)
    clear r0 r1 r2 hq hgd
    go_wp2_with fail
    refine (l14Tails_any s _ hs6).mono ?_
    rintro e w5 ⟨⟨A5, c5, us5, rfl, ht5⟩, b5⟩
    have HT5 := Lib.hid ht5
    have HB5 := Lib.hid (below_step HBX.out b5)
    clear ht5 b5
    go_wp2_with fail
    refine (l14Lengths_any s _ c5 A5 us5 _ hs6 HT5.out).mono ?_
    rintro e w6 ⟨⟨A6, c6, rfl, ho6⟩, b6⟩
    have HO6 := Lib.hid ho6
    have HB6 := Lib.hid (below_step HB5.out b6)
    clear ho6 b6 n0
    go_wp2
    go_loopw [7, 9] (fun z i wr => ∃ (k m : Nat), k ≤ s ∧ m ≤ 1000 ∧ i = .int .i64 k ∧ z = .int .i64 m ∧ Hid (m = s + 1 + wa + (s + 1) + leftSum s k) ∧ Hid (w6 = wr)) (fun _ i _ => s - (intOf i).toNat)
    case atStart => exact ⟨0, s + 1 + wa + (s + 1), Nat.zero_le _, by omega, rfl, by go_num, rfl, rfl⟩
    case round =>
      obtain ⟨k, m, hk, hm, rfl, rfl, HM, HWR⟩ := hrel
      have hwr := HWR.out
      subst hwr
      by_cases hlt : k < s
      · obtain ⟨g, rfl, _, _⟩ := own_addr0 HO6.out (by omega)
        have q0 := (sl_of_own HO6.out).at (j := k) (u := .int .i64 ((s + 5 + k : Nat) : Int)) (by rw [List.getElem?_map, tailLens_at hlt]; rfl)
        rw [Nat.zero_add] at q0
        obtain ⟨y, hy⟩ : ∃ y : Nat, y = s + 5 + k := ⟨_, rfl⟩
        rw [← hy] at q0
        have hm2 : m + y ≤ 1000 := by have h1 := HM.out; have h2 := leftSum_six hs6 (show k ≤ 6 by omega); omega
        have HM2 : Hid (m + y = s + 1 + wa + (s + 1) + leftSum s (k + 1)) := by have h1 := HM.out; unfold Hid; show _ = s + 1 + wa + (s + 1) + (leftSum s k + (s + 5 + k)); omega
        clear hy
        go_wp2
        go_roundw
        case rel => exact ⟨k + 1, m + y, by omega, hm2, by go_num, by go_num, HM2, by first | exact rfl | exact trivial⟩
        case measure => simp [intOf]; omega
      · obtain rfl : s = k := by omega
        go_wp2
        go_ret
        refine ⟨ret_int ?_, HB6.out⟩
        have h1 := HM.out
        unfold leftLen
        omega
end Go.Proofs.Ytdnkkmmkkfbhhaa

/- An act behind a region that was walked by facts, written out again. Plain laws. -/
namespace Go.Proofs.Ytdnkkmmkkfbhhaa
open Go.RowKit
set_option linter.all false

/-- The slots ds set to vs. -/
def setAll : Array Value → List Nat → List Value → Array Value
  | t, d :: ds, v :: vs => setAll (t.setIfInBounds d v) ds vs
  | t, _, _ => t
theorem setAll_size : ∀ {ds : List Nat} {vs : List Value} {t : Array Value}, (setAll t ds vs).size = t.size
  | [], _, _ => by simp [setAll]
  | _ :: _, [], _ => by simp [setAll]
  | d :: ds, v :: vs, t => by rw [setAll, setAll_size]; simp
theorem setAll_out : ∀ {ds : List Nat} {vs : List Value} {t : Array Value} {k : Nat}, k ∉ ds → (setAll t ds vs)[k]? = t[k]?
  | [], _, _, _, _ => by simp [setAll]
  | _ :: _, [], _, _, _ => by simp [setAll]
  | d :: ds, v :: vs, t, k, h => by
    rw [setAll, setAll_out (fun hk => h (List.mem_cons_of_mem _ hk)), Array.getElem?_setIfInBounds_ne (fun e => h (by rw [e]; exact List.mem_cons_self ..))]
theorem setAll_in : ∀ {ds : List Nat} {vs : List Value} {t : Array Value} {i d : Nat} {v : Value}, ds.Nodup → ds[i]? = some d → vs[i]? = some v → d < t.size → (setAll t ds vs)[d]? = some v
  | [], _, _, _, _, _, _, h, _, _ => by simp at h
  | _ :: _, [], _, _, _, _, _, _, h, _ => by simp at h
  | e :: ds, u :: vs, t, 0, d, v, hn, hd, hv, hs => by
    simp only [List.getElem?_cons_zero, Option.some.injEq] at hd hv
    subst hd hv
    rw [List.nodup_cons] at hn
    rw [setAll, setAll_out hn.1]
    simp [hs]
  | e :: ds, u :: vs, t, i + 1, d, v, hn, hd, hv, hs => by
    rw [List.nodup_cons] at hn
    rw [setAll]
    exact setAll_in hn.2 (by simpa using hd) (by simpa using hv) (by simpa using hs)
theorem act_eq {a a0 : Act} {ds : List Nat} {vs : List Value} (hn : ds.Nodup) (hlen : vs.length = ds.length) (hlt : ∀ d ∈ ds, d < a0.tmps.size) (hdf : a.defers = a0.defers) (hsz : a.tmps.size = a0.tmps.size) (hin : ∀ t, ds.contains t = false → a.eval (.tmp t) = a0.eval (.tmp t)) (hv : ∀ (i : Nat) d v, ds[i]? = some d → vs[i]? = some v → a.eval (.tmp d) = v) : a = ⟨setAll a0.tmps ds vs, a0.defers⟩ := by
  obtain ⟨tm, df⟩ := a
  obtain ⟨tm0, df0⟩ := a0
  simp only at hdf hsz hlt ⊢
  subst hdf
  congr 1
  apply Array.ext
  · rw [setAll_size]; exact hsz
  · intro k h1 h2
    have e1 : tm[k]? = some (tm[k]'h1) := Array.getElem?_eq_getElem h1
    have e2 : (setAll tm0 ds vs)[k]? = some ((setAll tm0 ds vs)[k]'h2) := Array.getElem?_eq_getElem h2
    have key : tm[k]? = (setAll tm0 ds vs)[k]? := by
      by_cases hk : k ∈ ds
      · obtain ⟨i, hi⟩ := List.mem_iff_getElem?.1 hk
        have hil : i < vs.length := by rw [hlen]; exact (List.getElem?_eq_some_iff.1 hi).1
        have hvi : vs[i]? = some (vs[i]'hil) := List.getElem?_eq_getElem hil
        rw [setAll_in hn hi hvi (hlt k hk), e1]
        have := hv i k _ hi hvi
        simp only [Act.eval, Array.getD_eq_getD_getElem?, e1, Option.getD_some] at this
        rw [this]
      · rw [setAll_out hk]
        have h3 := hin k (by simpa using hk)
        have e3 : tm0[k]? = some (tm0[k]'(by omega)) := Array.getElem?_eq_getElem (by omega)
        simp only [Act.eval, Array.getD_eq_getD_getElem?, e1, e3, Option.getD_some] at h3
        rw [e1, e3, h3]
    rw [e1, e2] at key
    injection key
end Go.Proofs.Ytdnkkmmkkfbhhaa

/- The cost of a step by the reference: l05Head, l05At, l20Cost, l20Numbers. -/
namespace Go.Proofs.Ytdnkkmmkkfbhhaa
open Go.RowKit
set_option linter.all false

/-- A variable laid from block lo on. -/
def kbox (lo : Nat) (cs : Array Value) (T : TypeId) : Fact := ⟨fun x w => ∃ g, x = .pointer (some ⟨g, 0, none⟩) ∧ lo ≤ g ∧ w.heap[g]? = some (.cells cs T (0, 0)), fun _ _ _ ⟨g, h1, h2, h3⟩ hb => ⟨g, h1, h2, (hb.block _ (heap_lt h3)).trans h3⟩⟩
theorem below_setRow9 {B g : Nat} {w : World} (h : B ≤ g) (cs : Array Value) : Below B w (w.setRow g cs) := ⟨rfl, rfl, rfl, by simp, fun k hk => setRow_other w g k cs (by omega)⟩

set_option maxRecDepth 100000 in
set_option maxHeartbeats 1000000 in
theorem l05Head_any (gc n2 c2 : Nat) (A2 : Option Addr) (rr : List Int) (v : Nat) (w : World) (k2 : w.cell? ⟨gc, 2, none⟩ = some (.slice A2 n2 c2)) (ha2 : Arg w A2 n2 (rr.map (Value.int .i64))) (hv : rr.getD 0 0 = (v : Int)) :
    Calls Try.prog 43 #[.pointer (some ⟨gc, 0, none⟩)] w fun e w' => e = .returned (.int .i64 v) ∧ w = w' := by
  have hl : rr.length = n2 := by have := ha2.1; rw [List.length_map] at this; exact this
  by_cases h0 : n2 = 0
  · subst h0
    have hr : rr = [] := List.eq_nil_of_length_eq_zero hl
    subst hr
    have hv0 : v = 0 := by simp at hv; omega
    subst hv0
    clear hl ha2 hv
    go_enter Try.func43, Try.ntmps43
    go_wp2
    go_ret
    exact ⟨rfl, rfl⟩
  · obtain ⟨b, off, rfl, hs⟩ := ha2.sl (show 0 < n2 by omega)
    obtain ⟨x, hx⟩ : ∃ x, rr[0]? = some x := ⟨rr[0]'(by omega), List.getElem?_eq_getElem _⟩
    have hxv : x = (v : Int) := by rw [← hv, List.getD_eq_getElem?_getD, hx]; rfl
    have p0 := hs.at (j := 0) (u := .int .i64 (v : Int)) (by rw [List.getElem?_map, hx, hxv]; rfl)
    have e0 : ¬ (n2 : Int) = 0 := by omega
    have e1 : ((n2 : Int) == 0) = false := by simp; omega
    have e2 : 0 < n2 := by omega
    have e3 : (0 : Int) < (n2 : Int) := by omega
    rw [Nat.add_zero] at p0
    clear hl hx hxv hv hs ha2
    go_enter Try.func43, Try.ntmps43
    go_wp2
    go_ret
    exact ⟨rfl, rfl⟩

set_option maxRecDepth 100000 in
set_option maxHeartbeats 1000000 in
theorem l05At_any (gm gc s Q br nr cr q : Nat) (A1 : Option Addr) (n1 c1 : Nat) (A2 : Option Addr) (n2 c2 : Nat) (rr : List Int) (v g i : Nat) (w : World) (hb : MCx gm gc s Q br nr cr q A1 n1 c1 A2 n2 c2 w) (ha2 : Arg w A2 n2 (rr.map (Value.int .i64))) (hv : rr.getD 0 0 = (v : Int)) (hg : g = q * s) (bg : g ≤ 6000) (hi : i = g + v) (bv : v ≤ 6) :
    Calls Try.prog 31 #[.pointer (some ⟨gm, 0, none⟩), .pointer (some ⟨gc, 0, none⟩)] w fun e w' => e = .returned (.int .i64 i) ∧ ∃ q, w' = w.drewN q := by
  obtain ⟨m0, m1, m2, k0, k1, k2⟩ := hb
  have ug : IntKind.i64.wrap ((q : Int) * (s : Int)) = (g : Int) := by
    have h1 : ((q * s : Nat) : Int) = (q : Int) * (s : Int) := by simp
    rw [← h1, ← hg]; exact IntWalk.i64_in _ (by omega)
  have ui : IntKind.i64.wrap ((g : Int) + (v : Int)) = (i : Int) := by
    have h1 : ((g + v : Nat) : Int) = (g : Int) + (v : Int) := by simp
    rw [← h1, ← hi]; exact IntWalk.i64_in _ (by omega)
  have HH : Hid (∀ m, Calls Try.prog 43 #[.pointer (some ⟨gc, 0, none⟩)] (w.drewN m) fun e w' => e = .returned (.int .i64 v) ∧ (w.drewN m) = w') := fun m => l05Head_any gc n2 c2 A2 rr v (w.drewN m) k2 ha2 hv
  clear hg hi ha2 hv m1 m2 k1
  go_enter Try.func31, Try.ntmps31
  go_wp2_with fail
  go_quiet ((go_at_call 43; exact quiet_eq (HH.out _)))
  go_wp2_with fail
  go_ret
  exact ⟨rfl, _, rfl⟩

set_option maxRecDepth 100000 in
set_option maxHeartbeats 1000000 in
theorem l20Numbers_any (gm gc s Q br nr cr q : Nat) (A1 : Option Addr) (n1 c1 : Nat) (A2 : Option Addr) (n2 c2 : Nat) (ll rr : List Int) (o1 o2 : Bool) (w : World) (hb : MCx gm gc s Q br nr cr q A1 n1 c1 A2 n2 c2 w) (ha1 : Arg w A1 n1 (ll.map (Value.int .i64))) (ha2 : Arg w A2 n2 (rr.map (Value.int .i64))) (hn1 : n1 ≤ 1048576) (hn2 : n2 ≤ 1048576) (hs : 1 ≤ s) (hs6 : s ≤ 6) (hd1 : Digs s ll) (hd2 : Digs s rr) (h1 : okOf (tapeN s ll) = o1) (h2 : okOf (tapeN s rr) = o2) :
    Calls Try.prog 17 #[.pointer (some ⟨gm, 0, none⟩), .pointer (some ⟨gc, 0, none⟩)] w fun e w' => e = .returned (.bool (o1 && o2)) ∧ ∃ q, w' = w.drewN q := by
  obtain ⟨m0, m1, m2, k0, k1, k2⟩ := hb
  obtain ⟨z1, hz1⟩ : ∃ z, numOf (tapeN s ll) = z := ⟨_, rfl⟩
  obtain ⟨z2, hz2⟩ : ∃ z, numOf (tapeN s rr) = z := ⟨_, rfl⟩
  have HH1 : Hid (∀ m, Calls Try.prog 30 #[.slice A1 n1 c1, .int .i64 s] (w.drewN m) fun e w' => e = .returned (.tuple #[.int .i64 z1, .bool o1]) ∧ (w.drewN m) = w') := fun m => by
    have h := l14Number_any s n1 c1 A1 ll (w.drewN m) ha1 hn1 hs hs6 hd1
    rw [h1, hz1] at h; exact h
  have HH2 : Hid (∀ m, Calls Try.prog 30 #[.slice A2 n2 c2, .int .i64 s] (w.drewN m) fun e w' => e = .returned (.tuple #[.int .i64 z2, .bool o2]) ∧ (w.drewN m) = w') := fun m => by
    have h := l14Number_any s n2 c2 A2 rr (w.drewN m) ha2 hn2 hs hs6 hd2
    rw [h2, hz2] at h; exact h
  clear ha1 ha2 hd1 hd2 h1 h2 hz1 hz2 m1 m2 k0
  go_enter Try.func17, Try.ntmps17
  go_wp2_with fail
  go_quiet ((go_at_call 30; exact quiet_eq (HH1.out _)))
  go_wp2_with fail
  obtain ⟨w1, hw1⟩ : ∃ w1, w.drewN nq = w1 := ⟨_, rfl⟩
  have HH3 : Hid (∀ m, Calls Try.prog 30 #[.slice A2 n2 c2, .int .i64 s] (w1.drewN m) fun e w' => e = .returned (.tuple #[.int .i64 z2, .bool o2]) ∧ (w1.drewN m) = w') := fun m => by
    have := HH2.out (nq + m); rw [← World.drewN_drewN, hw1] at this; exact this
  have m0' : w1.cell? ⟨gm, 0, none⟩ = some (.int .i64 s) := by rw [← hw1]; exact m0
  have k2' : w1.cell? ⟨gc, 2, none⟩ = some (.slice A2 n2 c2) := by rw [← hw1]; exact k2
  rw [hw1]
  have HW := Lib.hid hw1
  clear hw1 m0 k1 k2
  go_quiet ((go_at_call 30; exact quiet_eq (HH3.out _)))
  cases o1
  · go_wp2_with fail
    go_ret
    exact ⟨rfl, _, by rw [← HW.out, World.drewN_drewN]⟩
  · go_wp2_with fail
    go_ret
    exact ⟨by first | rfl | simp, _, by rw [← HW.out, World.drewN_drewN]⟩

set_option maxRecDepth 100000 in
set_option maxHeartbeats 8000000 in
theorem l20Cost_any (gm gc s Q br nr cr q : Nat) (rs : List R3) (x : R3) (A1 : Option Addr) (n1 c1 : Nat) (A2 : Option Addr) (n2 c2 : Nat) (ll rr : List Int) (l r : Nat) (w : World) (hb : MCx gm gc s Q br nr cr q A1 n1 c1 A2 n2 c2 w) (ha1 : Arg w A1 n1 (ll.map (Value.int .i64))) (ha2 : Arg w A2 n2 (rr.map (Value.int .i64))) (hn1 : n1 ≤ 1048576) (hn2 : n2 ≤ 1048576) (hs : 1 ≤ s) (hs6 : s ≤ 6) (hd1 : Digs s ll) (hd2 : Digs s rr) (h1 : tapeN s ll = some l) (h2 : tapeN s rr = some r)
    (hsl : Sl w br 0 (rows R3.vs rs)) (hnr : nr ≤ 6000) (hlr : rs.length = nr) (hq : q ≤ 1000) (hx : rs[q * s + r % s]? = some x) (hrule : ruleB s Q x = true) :
    Calls Try.prog 18 #[.pointer (some ⟨gm, 0, none⟩), .pointer (some ⟨gc, 0, none⟩)] w fun e w' => e = .returned (.int .i64 (costM s x l r : Nat)) ∧ Below w.heap.size w w' := by
  have hl : l ≤ 1000000 := tapeN_le h1
  have hr : r ≤ 1000000 := tapeN_le h2
  have hb0 := hb
  obtain ⟨m0, m1, m2, k0, k1, k2⟩ := hb
  have t1 := l14Number_any s n1 c1 A1 ll w ha1 hn1 hs hs6 hd1
  have t2 := l14Number_any s n2 c2 A2 rr w ha2 hn2 hs hs6 hd2
  have hrem := tapeN_rem hs hd2 h2
  rw [h1] at t1
  rw [h2] at t2
  have HT1 : Hid (Calls Try.prog 30 #[.slice A1 n1 c1, .int .i64 s] w fun e w' => e = .returned (.tuple #[.int .i64 (l : Int), .bool true]) ∧ w = w') := t1
  have HT2 : Hid (Calls Try.prog 30 #[.slice A2 n2 c2, .int .i64 s] w fun e w' => e = .returned (.tuple #[.int .i64 (r : Int), .bool true]) ∧ w = w') := t2
  have HSL := Lib.hid hsl
  have hhead : rr.getD 0 0 = ((r % s : Nat) : Int) := by
    rw [hrem]
    have h0 : 0 ≤ rr.getD 0 0 := by
      cases rr with
      | nil => simp
      | cons z zs => exact (hd2 z (List.mem_cons_self ..)).1
    exact (Int.toNat_of_nonneg h0).symm
  clear t1 t2 h1 h2 hsl hd1 hd2 hrem
  obtain ⟨k, hk⟩ : ∃ k : Nat, k = r / s := ⟨_, rfl⟩
  obtain ⟨v, hv⟩ : ∃ v : Nat, v = r % s := ⟨_, rfl⟩
  obtain ⟨j, hj⟩ : ∃ j : Nat, j = l / s := ⟨_, rfl⟩
  obtain ⟨y, hy⟩ : ∃ y : Nat, y = l % s := ⟨_, rfl⟩
  have bk : k ≤ 1000000 := by rw [hk]; exact Nat.le_trans (Nat.div_le_self _ _) hr
  have bj : j ≤ 1000000 := by rw [hj]; exact Nat.le_trans (Nat.div_le_self _ _) hl
  have bv : v < s := by rw [hv]; exact Nat.mod_lt _ hs
  have by_ : y < s := by rw [hy]; exact Nat.mod_lt _ hs
  have q1 : (r : Int).tdiv (s : Int) = (k : Int) := by rw [hk]; rfl
  have q2 : (r : Int).tmod (s : Int) = (v : Int) := by rw [hv]; rfl
  have q3 : (l : Int).tdiv (s : Int) = (j : Int) := by rw [hj]; rfl
  have q4 : (l : Int).tmod (s : Int) = (y : Int) := by rw [hy]; rfl
  have q5 : (r : Int) / (s : Int) = (k : Int) := by rw [hk]; rfl
  have q6 : (r : Int) % (s : Int) = (v : Int) := by rw [hv]; rfl
  have q7 : (l : Int) / (s : Int) = (j : Int) := by rw [hj]; rfl
  have q8 : (l : Int) % (s : Int) = (y : Int) := by rw [hy]; rfl
  rw [← hv] at hx hhead
  obtain ⟨xa, xb, xc⟩ := x
  obtain ⟨wa, hwa, hwa6, hsh⟩ : ∃ wa : Nat, wa = xa.toNat ∧ wa ≤ 5 ∧ (noR ⟨xa, xb, xc⟩ = false → xa = wa ∧ (xb = 1 ∨ xb = -1)) := by
    rcases ruleB_cases hrule with h0 | ⟨h0, hm, ha, ha2, hc, hc2⟩
    · refine ⟨xa.toNat, rfl, ?_, fun h => by rw [h0] at h; cases h⟩
      have : xa = 0 := by unfold noR at h0; simp only [Bool.and_eq_true, decide_eq_true_eq] at h0; exact h0.1.1
      rw [this]; simp
    · dsimp only at hm ha ha2
      exact ⟨xa.toNat, rfl, by omega, fun _ => ⟨by omega, hm⟩⟩
  obtain ⟨a, ha⟩ : ∃ a : Nat, a = (s + 1) * k := ⟨_, rfl⟩
  have ba : a ≤ 7000000 := by rw [ha]; exact Nat.le_trans (Nat.mul_le_mul (show (s + 1) ≤ 7 by omega) (show k ≤ 1000000 by omega)) (by omega)
  have u_a : IntKind.i64.wrap (((s : Int) + 1) * (k : Int)) = (a : Int) := by
    have h1 : (((s + 1) * k : Nat) : Int) = ((s : Int) + 1) * (k : Int) := by simp
    rw [← h1, ← ha]; exact IntWalk.i64_in _ (by omega)
  obtain ⟨b, hb⟩ : ∃ b : Nat, b = (s + 1) * l := ⟨_, rfl⟩
  have bb : b ≤ 7000000 := by rw [hb]; exact Nat.le_trans (Nat.mul_le_mul (show (s + 1) ≤ 7 by omega) (show l ≤ 1000000 by omega)) (by omega)
  have u_b : IntKind.i64.wrap (((s : Int) + 1) * (l : Int)) = (b : Int) := by
    have h1 : (((s + 1) * l : Nat) : Int) = ((s : Int) + 1) * (l : Int) := by simp
    rw [← h1, ← hb]; exact IntWalk.i64_in _ (by omega)
  obtain ⟨c, hc⟩ : ∃ c : Nat, c = (2 * s) * l := ⟨_, rfl⟩
  have bc : c ≤ 12000000 := by rw [hc]; exact Nat.le_trans (Nat.mul_le_mul (show (2 * s) ≤ 12 by omega) (show l ≤ 1000000 by omega)) (by omega)
  have u_c : IntKind.i64.wrap ((2 * (s : Int)) * (l : Int)) = (c : Int) := by
    have h1 : (((2 * s) * l : Nat) : Int) = (2 * (s : Int)) * (l : Int) := by simp
    rw [← h1, ← hc]; exact IntWalk.i64_in _ (by omega)
  obtain ⟨d, hd⟩ : ∃ d : Nat, d = (s + 1) * j := ⟨_, rfl⟩
  have bd : d ≤ 7000000 := by rw [hd]; exact Nat.le_trans (Nat.mul_le_mul (show (s + 1) ≤ 7 by omega) (show j ≤ 1000000 by omega)) (by omega)
  have u_d : IntKind.i64.wrap (((s : Int) + 1) * (j : Int)) = (d : Int) := by
    have h1 : (((s + 1) * j : Nat) : Int) = ((s : Int) + 1) * (j : Int) := by simp
    rw [← h1, ← hd]; exact IntWalk.i64_in _ (by omega)
  obtain ⟨z, hz⟩ : ∃ z : Nat, z = k * s := ⟨_, rfl⟩
  have bz : z ≤ 6000000 := by rw [hz]; exact Nat.le_trans (Nat.mul_le_mul (show k ≤ 1000000 by omega) (show s ≤ 6 by omega)) (by omega)
  have u_z : IntKind.i64.wrap ((k : Int) * (s : Int)) = (z : Int) := by
    have h1 : ((k * s : Nat) : Int) = (k : Int) * (s : Int) := by simp
    rw [← h1, ← hz]; exact IntWalk.i64_in _ (by omega)
  obtain ⟨n, hn⟩ : ∃ n : Nat, n = z + wa := ⟨_, rfl⟩
  have wn : IntKind.i64.wrap ((z : Int) + (wa : Int)) = (n : Int) := by
    have h1 : ((z + wa : Nat) : Int) = (z : Int) + (wa : Int) := by simp
    rw [← h1, ← hn]; exact IntWalk.i64_in _ (by omega)
  obtain ⟨e, he⟩ : ∃ e : Nat, e = (s + 1) * n := ⟨_, rfl⟩
  have be : e ≤ 42000070 := by rw [he]; exact Nat.le_trans (Nat.mul_le_mul (show (s + 1) ≤ 7 by omega) (show n ≤ 6000010 by omega)) (by omega)
  have u_e : IntKind.i64.wrap (((s : Int) + 1) * (n : Int)) = (e : Int) := by
    have h1 : (((s + 1) * n : Nat) : Int) = ((s : Int) + 1) * (n : Int) := by simp
    rw [← h1, ← he]; exact IntWalk.i64_in _ (by omega)
  obtain ⟨f, hf⟩ : ∃ f : Nat, f = (2 * s) * n := ⟨_, rfl⟩
  have bf : f ≤ 72000120 := by rw [hf]; exact Nat.le_trans (Nat.mul_le_mul (show (2 * s) ≤ 12 by omega) (show n ≤ 6000010 by omega)) (by omega)
  have u_f : IntKind.i64.wrap ((2 * (s : Int)) * (n : Int)) = (f : Int) := by
    have h1 : (((2 * s) * n : Nat) : Int) = (2 * (s : Int)) * (n : Int) := by simp
    rw [← h1, ← hf]; exact IntWalk.i64_in _ (by omega)
  obtain ⟨g, hg⟩ : ∃ g : Nat, g = q * s := ⟨_, rfl⟩
  have bg : g ≤ 6000 := by rw [hg]; exact Nat.le_trans (Nat.mul_le_mul (show q ≤ 1000 by omega) (show s ≤ 6 by omega)) (by omega)
  have u_g : IntKind.i64.wrap ((q : Int) * (s : Int)) = (g : Int) := by
    have h1 : ((q * s : Nat) : Int) = (q : Int) * (s : Int) := by simp
    rw [← h1, ← hg]; exact IntWalk.i64_in _ (by omega)
  obtain ⟨i, hi⟩ : ∃ i : Nat, i = g + v := ⟨_, rfl⟩
  rw [← hg, ← hi] at hx
  have HB0 := Lib.hid hb0; have HA2 := Lib.hid ha2; have HHD := Lib.hid hhead; have HG := Lib.hid hg; have HI := Lib.hid hi
  have hin : i < nr := by have := (List.getElem?_eq_some_iff.1 hx).1; omega
  have hiI : (i : Int) < (nr : Int) := by omega
  obtain ⟨p0, p1, p2⟩ := HSL.out.rec3 hx
  simp only [Nat.zero_add] at p0 p1 p2
  have HC : Hid (costM s ⟨xa, xb, xc⟩ l r = if noR ⟨xa, xb, xc⟩ then a + v + 1 + a + 1 + v else if xb = 1 then a + v + 1 + 2 * k + 1 + b + 1 + c + 1 + wa else a + v + 1 + a + 1 + wa + d + y + 1 + 2 * j + 1 + e + 1 + f + 1 + y) := by
    unfold Hid costM
    rw [← hk, ← hv, ← hj, ← hy, ← hwa, ← hz, ← hn, ← ha, ← hb, ← hc, ← hd, ← he, ← hf]
  obtain ⟨nb, hnb⟩ : ∃ nb, noR ⟨xa, xb, xc⟩ = nb := ⟨_, rfl⟩
  have hne := eqRule_run ⟨xa, xb, xc⟩ nb hnb
  have hgd := guardRule
  have HNB := Lib.hid hnb; have HSH := Lib.hid hsh
  clear hnb hsh
  have hs0 : ¬ (s : Int) = 0 := by omega
  have hs1 : ((s : Int) == 0) = false := by simp; omega
  have hs2 : ¬ s = 0 := by omega
  have hs3 : (s == 0) = false := by simp; omega
  have W1 : IntKind.i64.wrap (k : Int) = (k : Int) := IntWalk.i64_in _ (by omega)
  have W2 : IntKind.i64.wrap (v : Int) = (v : Int) := IntWalk.i64_in _ (by omega)
  have W3 : IntKind.i64.wrap (j : Int) = (j : Int) := IntWalk.i64_in _ (by omega)
  have W4 : IntKind.i64.wrap (y : Int) = (y : Int) := IntWalk.i64_in _ (by omega)
  have HLR := Lib.hid hlr; clear hlr
  clear hk hv hj hy hx hrule hwa hz hn ha hb hc hd he hf hg hi ha1 ha2 hhead hb0
  go_enter Try.func18, Try.ntmps18
  go_wp2_with fail
  refine HT1.out.mono ?_
  rintro e0 w' ⟨rfl, rfl⟩
  go_wp2_with fail
  refine HT2.out.mono ?_
  rintro e0 w' ⟨rfl, rfl⟩
  have HII := Lib.hid hiI
  go_upto_region 7 with fail
  refine region_facts_l (by kernel_rfl) rfl [kcst (.pointer (some ⟨gm, 0, none⟩)), kcst (.pointer (some ⟨gm, 0, none⟩)), kcst (.pointer (some ⟨gm, 2, none⟩)), kcst (.slice (some ⟨br, 0, none⟩) nr cr), kcst (.pointer (some ⟨gm, 0, none⟩)), kcst (.pointer (some ⟨gc, 0, none⟩)), kcst (.int .i64 i), kcst (.pointer (some ⟨br, i * 3, none⟩)), kcst (.agg #[.int .i64 xa, .int .i64 xb, .int .i64 xc]), kbox w.heap.size #[.int .i64 0, .int .i64 0, .int .i64 0] 59] [52, 53, 54, 55, 56, 57, 58, 59, 60, 13] (by kernel_rfl) (by kernel_rfl) ?_ ?_
  · refine ⟨?_, ?_, ?_, ?_, ?_, ?_, ?_, ?_, ?_, ?_, trivial⟩
    · intro a W hB hin haft K hK
      have h0 : a.tmps[0]?.getD undef = .pointer (some ⟨gm, 0, none⟩) := kev (hin 0 (by decide))
      clear haft hin
      unfold Oper.wp
      go_simp
      exact hK _ _ rfl (Below.refl _ _)
    · intro a W hB hin haft K hK
      have h52 : a.tmps[52]?.getD undef = .pointer (some ⟨gm, 0, none⟩) := kev (haft ⟨0, .data⟩ (by simp) rfl 52 rfl)
      clear haft hin
      unfold Oper.wp
      go_simp
      exact hK _ _ rfl (Below.refl _ _)
    · intro a W hB hin haft K hK
      have h53 : a.tmps[53]?.getD undef = .pointer (some ⟨gm, 0, none⟩) := kev (haft ⟨1, .data⟩ (by simp) rfl 53 rfl)
      clear haft hin
      unfold Oper.wp
      go_simp
      exact hK _ _ rfl (Below.refl _ _)
    · intro a W hB hin haft K hK
      have h54 : a.tmps[54]?.getD undef = .pointer (some ⟨gm, 2, none⟩) := kev (haft ⟨2, .data⟩ (by simp) rfl 54 rfl)
      have k1 := cell_step (by exact m2) hB
      clear haft hin
      unfold Oper.wp
      go_simp
      exact hK _ _ rfl (Below.refl _ _)
    · intro a W hB hin haft K hK
      have h0 : a.tmps[0]?.getD undef = .pointer (some ⟨gm, 0, none⟩) := kev (hin 0 (by decide))
      clear haft hin
      unfold Oper.wp
      go_simp
      exact hK _ _ rfl (Below.refl _ _)
    · intro a W hB hin haft K hK
      have h1 : a.tmps[1]?.getD undef = .pointer (some ⟨gc, 0, none⟩) := kev (hin 1 (by decide))
      clear haft hin
      unfold Oper.wp
      go_simp
      exact hK _ _ rfl (Below.refl _ _)
    · intro a W hB hin haft K hK
      have h56 : a.tmps[56]?.getD undef = .pointer (some ⟨gm, 0, none⟩) := kev (haft ⟨4, .data⟩ (by simp) rfl 56 rfl)
      have h57 : a.tmps[57]?.getD undef = .pointer (some ⟨gc, 0, none⟩) := kev (haft ⟨5, .data⟩ (by simp) rfl 57 rfl)
      have HBB := Lib.hid hB
      clear haft hin
      unfold Oper.wp
      go_simp
      refine (l05At_any gm gc s Q br nr cr q A1 n1 c1 A2 n2 c2 rr v g i W (HB0.out.below HBB.out) (HA2.out.below HBB.out) HHD.out HG.out bg HI.out (by omega)).mono ?_
      rintro e9 w9 ⟨rfl, q9, rfl⟩
      exact hK _ _ rfl (below_drewN (Below.refl _ _) q9)
    · intro a W hB hin haft K hK
      have h55 : a.tmps[55]?.getD undef = .slice (some ⟨br, 0, none⟩) nr cr := kev (haft ⟨3, .data⟩ (by simp) rfl 55 rfl)
      have h58 : a.tmps[58]?.getD undef = .int .i64 i := kev (haft ⟨6, .data⟩ (by simp) rfl 58 rfl)
      have hi1 := HII.out
      clear haft hin
      unfold Oper.wp
      go_simp
      exact hK _ _ rfl (Below.refl _ _)
    · intro a W hB hin haft K hK
      have h59 : a.tmps[59]?.getD undef = .pointer (some ⟨br, i * 3, none⟩) := kev (haft ⟨7, .data⟩ (by simp) rfl 59 rfl)
      have k1 := cell_step (by exact p0) hB
      have k2 := cell_step (by exact p1) hB
      have k3 := cell_step (by exact p2) hB
      clear haft hin
      unfold Oper.wp
      go_simp
      exact hK _ _ rfl (Below.refl _ _)
    · intro a W hB hin haft K hK
      have HSZ := Lib.hid hB.size
      clear haft hin
      unfold Oper.wp
      go_simp
      exact hK _ _ ⟨_, rfl, HSZ.out, heap_alloc_new _ _⟩ (laid_below _ _)
  · intro a W hB hdf hsz hin hf K hK
    obtain ⟨g9, hg9, hgs, hgh⟩ := hf 9 13 rfl
    have HACT : a = _ := act_eq (vs := [.pointer (some ⟨gm, 0, none⟩), .pointer (some ⟨gm, 0, none⟩), .pointer (some ⟨gm, 2, none⟩), .slice (some ⟨br, 0, none⟩) nr cr, .pointer (some ⟨gm, 0, none⟩), .pointer (some ⟨gc, 0, none⟩), .int .i64 i, .pointer (some ⟨br, i * 3, none⟩), .agg #[.int .i64 xa, .int .i64 xb, .int .i64 xc], .pointer (some ⟨g9, 0, none⟩)]) (ds := [52, 53, 54, 55, 56, 57, 58, 59, 60, 13]) (by decide) rfl (by simp) hdf hsz hin (by
      rintro (_|_|_|_|_|_|_|_|_|_|k) d v h1 h2
      · (injection h1 with h1); (injection h2 with h2); (subst h1 h2); exact hf 0 52 rfl
      · (injection h1 with h1); (injection h2 with h2); (subst h1 h2); exact hf 1 53 rfl
      · (injection h1 with h1); (injection h2 with h2); (subst h1 h2); exact hf 2 54 rfl
      · (injection h1 with h1); (injection h2 with h2); (subst h1 h2); exact hf 3 55 rfl
      · (injection h1 with h1); (injection h2 with h2); (subst h1 h2); exact hf 4 56 rfl
      · (injection h1 with h1); (injection h2 with h2); (subst h1 h2); exact hf 5 57 rfl
      · (injection h1 with h1); (injection h2 with h2); (subst h1 h2); exact hf 6 58 rfl
      · (injection h1 with h1); (injection h2 with h2); (subst h1 h2); exact hf 7 59 rfl
      · (injection h1 with h1); (injection h2 with h2); (subst h1 h2); exact hf 8 60 rfl
      · (injection h1 with h1); (injection h2 with h2); (subst h1 h2); exact hg9
      · simp at h1)
    have h60 : a.eval (.tmp 60) = .agg #[.int .i64 xa, .int .i64 xb, .int .i64 xc] := hf 8 60 rfl
    refine wp_store_row (P := Try.prog) 59 _ _ rfl g9 #[.int .i64 xa, .int .i64 xb, .int .i64 xc] hg9 h60 59 #[.int .i64 0, .int .i64 0, .int .i64 0] hgh (by kernel_rfl) rfl (by simp [Value.oneCell']) ?_
    refine hK _ _ ?_
    have x3 := setRow_heap W g9 _ #[.int .i64 xa, .int .i64 xb, .int .i64 xc] _ _ hgh
    have HB3 : Hid (Below w.heap.size w (W.setRow g9 #[.int .i64 xa, .int .i64 xb, .int .i64 xc])) := hB.trans (below_setRow9 hgs _)
    obtain ⟨w3, hw3⟩ : ∃ w3, W.setRow g9 #[.int .i64 xa, .int .i64 xb, .int .i64 xc] = w3 := ⟨_, rfl⟩
    rw [hw3] at x3 HB3 ⊢
    have l0 : w3.cell? ⟨g9, 0, none⟩ = some (.int .i64 xa) := by rw [cell_of_heap x3]; rfl
    have l1 : w3.cell? ⟨g9, 1, none⟩ = some (.int .i64 xb) := by rw [cell_of_heap x3]; rfl
    have l2 : w3.cell? ⟨g9, 2, none⟩ = some (.int .i64 xc) := by rw [cell_of_heap x3]; rfl
    subst HACT
    clear hdf hsz hin hf hK hg9 hgs hgh h60 hw3 x3 hB m0 m1 m2 k0 k1 k2 p0 p1 p2 q1 q2 q5 q6 W1 W2 W
    simp only [setAll, Act.put, List.setIfInBounds_toArray, List.set_cons_zero, List.set_cons_succ]
    go_wp2_with fail
    go_region_held3 (fun W => W.cell? ⟨g9, 0, none⟩ = some (.int .i64 xa) ∧ W.cell? ⟨g9, 1, none⟩ = some (.int .i64 xb) ∧ W.cell? ⟨g9, 2, none⟩ = some (.int .i64 xc)) (first | go_keep | exact ⟨r0, r1, r2⟩)
      ((go_at_call 32; refine (l05None_any _).mono ?_; rintro e9 w4 ⟨rfl, b4'⟩; have b4 := below_drew_at b4'; have r0 := cell_step (by exact l0) b4; have r1 := cell_step (by exact l1) b4; have r2 := cell_step (by exact l2) b4))
    all_goals
      have HB4 := Lib.hid (below_step HB3.out b4)
      clear b4 b4' l0 l1 l2 hne hgd
      cases nb with
      | true =>
        have hc := HC.out
        rw [if_pos HNB.out] at hc
        have HCC := Lib.hid hc
        clear hc HC
        go_wp2
        go_ret
        exact ⟨ret_int (by rw [HCC.out]; omega), HB4.out⟩
      | false =>
        obtain ⟨rfl, hm⟩ := HSH.out HNB.out
        have hc := HC.out
        rw [if_neg (by rw [HNB.out]; decide)] at hc
        rcases hm with rfl | rfl
        · rw [if_pos rfl] at hc
          have HCC := Lib.hid hc
          clear hc HC
          go_wp2
          go_ret
          exact ⟨ret_int (by rw [HCC.out]; omega), HB4.out⟩
        · rw [if_neg (by omega)] at hc
          have HCC := Lib.hid hc
          clear hc HC
          go_wp2
          go_ret
          exact ⟨ret_int (by rw [HCC.out]; omega), HB4.out⟩

end Go.Proofs.Ytdnkkmmkkfbhhaa

/- The patches of the assembler: emit$1. -/
namespace Go.Proofs.Ytdnkkmmkkfbhhaa
open Go.RowKit
set_option linter.all false

theorem AS.drew {lo ga n k : Nat} {V P : Value} {cs : List Value} {ps : List PatchV} {W : World} (h : AS lo ga n k V P cs ps W) : AS lo ga n k V P cs ps W.drew := h.below (Below.refl _ _).drew
theorem Ext.drew {lo ga : Nat} {W W' : World} (h : Ext lo ga W W') : Ext lo ga W W'.drew := ⟨h.below.drew, h.pb, h.kept, h.spot⟩
theorem St.drew {lo ga n : Nat} {W : World} (h : St lo ga n W) : St lo ga n W.drew := h.below (Below.refl _ _).drew

/-- What a patch leaves: the list's cells may turn. -/
def PatchPost (lo ga n k : Nat) (V P : Value) (ps : List PatchV) (w : World) (e : Ending) (w' : World) : Prop :=
  e = .returned (.tuple #[]) ∧ Ext lo ga w w' ∧ ∃ cs', AS lo ga n k V P cs' ps w'

set_option maxRecDepth 100000 in
set_option maxHeartbeats 4000000 in
theorem patch_any (lo ga n k : Nat) (V P : Value) (cs : List Value) (ps : List PatchV) (p : PatchV) (w : World) (h : AS lo ga n k V P cs ps w) (hp : PatchOk lo ga n p w) (hn : n ≤ 1000000) :
    Calls Try.prog 74 (#[] ++ p.caps) w (PatchPost lo ga n k V P ps w) := by
  obtain ⟨bt, ba, bk, bo⟩ := p
  obtain ⟨pa, ⟨i, hi, pk⟩, ⟨u, hu, pt⟩, ⟨z, hz, po⟩⟩ := hp
  show Calls _ _ #[.pointer (some ⟨bt, 0, none⟩), .pointer (some ⟨ba, 0, none⟩), .pointer (some ⟨bk, 0, none⟩), .pointer (some ⟨bo, 0, none⟩)] _ _
  dsimp only at pa pk pt po
  obtain ⟨A, c, rfl⟩ := own_form h.list
  obtain ⟨g, rfl, hg1, hg2⟩ := own_addr0 h.list (by omega)
  have H := Lib.hid h
  have v0 : w.cell? ⟨ga, 0, none⟩ = some (.slice (some ⟨g, 0, none⟩) n c) := by rw [cell_of_heap h.var]; rfl
  have a0 : w.cell? ⟨ba, 0, none⟩ = some (.pointer (some ⟨ga, 0, none⟩)) := by rw [cell_of_heap pa]; rfl
  have k0 : w.cell? ⟨bk, 0, none⟩ = some (.int .i64 i) := by rw [cell_of_heap pk]; rfl
  have t0 : w.cell? ⟨bt, 0, none⟩ = some u := by rw [cell_of_heap pt]; rfl
  have o0 : w.cell? ⟨bo, 0, none⟩ = some z := by rw [cell_of_heap po]; rfl
  have f2 := h.list.frozenAt (i * 4 + 2)
  have f3 := h.list.frozenAt (i * 4 + 3)
  obtain ⟨u2, c2⟩ := own_some h.list (j := i * 4 + 2) (by omega)
  obtain ⟨u3, c3⟩ := own_some h.list (j := i * 4 + 3) (by omega)
  have PA := Lib.hid pa; have PK := Lib.hid pk; have PO := Lib.hid po
  have HZ := Lib.hid hz
  have KP : Hid (∀ (q : Nat) (v : Value) (ty : TypeId), w.heap[q]? = some (.cells #[v] ty (0, 0)) → ty ≠ 110 → ∀ (j : Nat) (u : Value), (w.setCell ⟨g, j, none⟩ u).cell? ⟨q, 0, none⟩ = some v) := fun q v ty hq hne j u => by
    rw [cell_of_heap (heap_set_other hq ⟨g, j, none⟩ (fun e => own_ne_block h.list hq (Ne.symm hne) (by rw [e]; rfl)) u)]; rfl
  have PT := Lib.hid pt
  have KV : Hid (∀ (j : Nat) (u : Value), (w.setCell ⟨g, j, none⟩ u).cell? ⟨ga, 0, none⟩ = some (.slice (some ⟨g, 0, none⟩) n c)) := fun j u => by
    rw [cell_of_heap (heap_set_other h.var ⟨g, j, none⟩ (fun e => own_ne_block h.list h.var (by decide) (by rw [e]; rfl)) u)]; rfl
  clear h pa pk pt po
  rcases hu with rfl | ⟨s, rfl, hs⟩
  · rcases hz with rfl | ⟨r, rfl, hr⟩
    · go_enter Try.func74, Try.ntmps74
      go_wp2
      go_end0
      exact ⟨rfl, Ext.refl _ _ _, _, H.out⟩
    · obtain ⟨y, hy⟩ := hr.2
      have r0 : w.cell? ⟨r, 0, none⟩ = some (.int .i64 y) := by rw [cell_of_heap hy]; rfl
      have R3 := Lib.hid (H.out.set (i * 4 + 3) (.int .i64 y))
      have b1 := KP.out _ _ _ PA.out (by decide) (i * 4 + 3) (.int .i64 y)
      have b2 := KV.out (i * 4 + 3) (.int .i64 y)
      have b3 := KP.out _ _ _ PK.out (by decide) (i * 4 + 3) (.int .i64 y)
      have b4 := KP.out _ _ _ PO.out (by decide) (i * 4 + 3) (.int .i64 y)
      have b5 := KP.out _ _ _ hy (by decide) (i * 4 + 3) (.int .i64 y)
      clear hy hr
      go_enter Try.func74, Try.ntmps74
      go_wp2
      go_region_held3 (fun W => W.cell? ⟨ba, 0, none⟩ = some (.pointer (some ⟨ga, 0, none⟩)) ∧ W.cell? ⟨ga, 0, none⟩ = some (.slice (some ⟨g, 0, none⟩) n c) ∧ W.cell? ⟨bk, 0, none⟩ = some (.int .i64 i) ∧ W.cell? ⟨bo, 0, none⟩ = some (.pointer (some ⟨r, 0, none⟩)) ∧ W.cell? ⟨r, 0, none⟩ = some (.int .i64 y)) (first | go_keep | exact ⟨a0, v0, k0, o0, r0⟩ | exact ⟨b1, b2, b3, b4, b5⟩) (fail)
      all_goals
        go_end0
        exact ⟨rfl, R3.out.2.drew, _, R3.out.1.drew⟩
  · obtain ⟨x, hx⟩ := hs.2
    have s0 : w.cell? ⟨s, 0, none⟩ = some (.int .i64 x) := by rw [cell_of_heap hx]; rfl
    obtain ⟨HA, HE⟩ := H.out.set (i * 4 + 2) (.int .i64 x)
    have R2 := Lib.hid (And.intro HA HE)
    obtain ⟨w2, hw2⟩ : ∃ w2, w.setCell ⟨g, i * 4 + 2, none⟩ (.int .i64 x) = w2 := ⟨_, rfl⟩
    rw [hw2] at HA HE
    have qa := HE.kept _ _ _ _ PA.out (by decide) (by decide) (by decide) (.inl (by decide))
    have qk := HE.kept _ _ _ _ PK.out (by decide) (by decide) (by decide) (.inl (by decide))
    have qo := HE.kept _ _ _ _ PO.out (by decide) (by decide) (by decide) (.inl (by decide))
    have v1 : w2.cell? ⟨ga, 0, none⟩ = some (.slice (some ⟨g, 0, none⟩) n c) := by rw [cell_of_heap HA.var]; rfl
    have a1 : w2.cell? ⟨ba, 0, none⟩ = some (.pointer (some ⟨ga, 0, none⟩)) := by rw [cell_of_heap qa]; rfl
    have k1 : w2.cell? ⟨bk, 0, none⟩ = some (.int .i64 i) := by rw [cell_of_heap qk]; rfl
    have o1 : w2.cell? ⟨bo, 0, none⟩ = some z := by rw [cell_of_heap qo]; rfl
    have f13 := HA.list.frozenAt (i * 4 + 3)
    obtain ⟨u13, c13⟩ := own_some HA.list (j := i * 4 + 3) (by omega)
    have H2 := Lib.hid HA; have E2 := Lib.hid HE
    have t1 := KP.out _ _ _ PT.out (by decide) (i * 4 + 2) (.int .i64 x)
    have s1 := KP.out _ _ _ hx (by decide) (i * 4 + 2) (.int .i64 x)
    rw [hw2] at t1 s1
    have QA := Lib.hid qa; have QK := Lib.hid qk; have QO := Lib.hid qo
    clear HA HE qa qk qo hx hs
    rcases hz with rfl | ⟨r, rfl, hr⟩
    · go_enter Try.func74, Try.ntmps74
      go_wp2
      go_region_held3 (fun W => W.cell? ⟨ba, 0, none⟩ = some (.pointer (some ⟨ga, 0, none⟩)) ∧ W.cell? ⟨ga, 0, none⟩ = some (.slice (some ⟨g, 0, none⟩) n c) ∧ W.cell? ⟨bk, 0, none⟩ = some (.int .i64 i) ∧ W.cell? ⟨bt, 0, none⟩ = some (.pointer (some ⟨s, 0, none⟩)) ∧ W.cell? ⟨s, 0, none⟩ = some (.int .i64 x)) (first | go_keep | exact ⟨a0, v0, k0, t0, s0⟩ | exact ⟨a1, v1, k1, t1, s1⟩) (fail)
      all_goals
        try rw [hw2]
        go_wp2
        go_end0
        exact ⟨rfl, E2.out.drew, _, H2.out.drew⟩
    · obtain ⟨y, hy⟩ := (hr.ext E2.out).2
      have r1 : w2.cell? ⟨r, 0, none⟩ = some (.int .i64 y) := by rw [cell_of_heap hy]; rfl
      have R3 := Lib.hid (H2.out.set (i * 4 + 3) (.int .i64 y))
      have KP2 : Hid (∀ (q : Nat) (v : Value) (ty : TypeId), w2.heap[q]? = some (.cells #[v] ty (0, 0)) → ty ≠ 110 → ∀ (j : Nat) (u : Value), (w2.setCell ⟨g, j, none⟩ u).cell? ⟨q, 0, none⟩ = some v) := fun q v ty hq hne j u => by
        rw [cell_of_heap (heap_set_other hq ⟨g, j, none⟩ (fun e => own_ne_block H2.out.list hq (Ne.symm hne) (by rw [e]; rfl)) u)]; rfl
      have d1 := KP2.out _ _ _ QA.out (by decide) (i * 4 + 3) (.int .i64 y)
      have d2 : (w2.setCell ⟨g, i * 4 + 3, none⟩ (.int .i64 y)).cell? ⟨ga, 0, none⟩ = some (.slice (some ⟨g, 0, none⟩) n c) := by
        rw [cell_of_heap (heap_set_other H2.out.var ⟨g, i * 4 + 3, none⟩ (fun e => own_ne_block H2.out.list H2.out.var (by decide) (by rw [e]; rfl)) _)]; rfl
      have d3 := KP2.out _ _ _ QK.out (by decide) (i * 4 + 3) (.int .i64 y)
      have d4 := KP2.out _ _ _ QO.out (by decide) (i * 4 + 3) (.int .i64 y)
      have d5 := KP2.out _ _ _ hy (by decide) (i * 4 + 3) (.int .i64 y)
      clear hy hr
      go_enter Try.func74, Try.ntmps74
      go_wp2
      go_region_held3 (fun W => W.cell? ⟨ba, 0, none⟩ = some (.pointer (some ⟨ga, 0, none⟩)) ∧ W.cell? ⟨ga, 0, none⟩ = some (.slice (some ⟨g, 0, none⟩) n c) ∧ W.cell? ⟨bk, 0, none⟩ = some (.int .i64 i) ∧ W.cell? ⟨bt, 0, none⟩ = some (.pointer (some ⟨s, 0, none⟩)) ∧ W.cell? ⟨s, 0, none⟩ = some (.int .i64 x)) (first | go_keep | exact ⟨a0, v0, k0, t0, s0⟩ | exact ⟨a1, v1, k1, t1, s1⟩) (fail)
      all_goals
        try rw [hw2]
        go_wp2
        go_region_held3 (fun W => W.cell? ⟨ba, 0, none⟩ = some (.pointer (some ⟨ga, 0, none⟩)) ∧ W.cell? ⟨ga, 0, none⟩ = some (.slice (some ⟨g, 0, none⟩) n c) ∧ W.cell? ⟨bk, 0, none⟩ = some (.int .i64 i) ∧ W.cell? ⟨bo, 0, none⟩ = some (.pointer (some ⟨r, 0, none⟩)) ∧ W.cell? ⟨r, 0, none⟩ = some (.int .i64 y)) (first | go_keep | exact ⟨a1, v1, k1, o1, r1⟩ | exact ⟨d1, d2, d3, d4, d5⟩) (fail)
        all_goals
          go_end0
          exact ⟨rfl, (E2.out.trans R3.out.2).drew.drew, _, R3.out.1.drew.drew⟩
end Go.Proofs.Ytdnkkmmkkfbhhaa

/- The program of a machine: program, sectioned, machineToProgram: the code alone. -/
namespace Go.Proofs.Ytdnkkmmkkfbhhaa
open Go.RowKit
set_option linter.all false

theorem own_capN {w : World} {base : Nat} {e : TypeId} {size n c g : Nat} {xs : List Value} (h : w.ownsRow base e size (.slice (some ⟨g, 0, none⟩) n c) n xs) : n ≤ c := by
  rcases h.2 with ⟨h0, _⟩ | ⟨g', cap, cur, h0, _, _, h1, _⟩
  · cases h0
  · injection h0 with _ _ h0; subst h0; exact h1

def codeOf (n : Nat) : Int := if 400 < n then 5 else 0
def ProgPost (lo ga n : Nat) (w : World) (e : Ending) (w' : World) : Prop := (∃ A m c, e = .returned (.tuple #[.slice A m c, .int .i64 (codeOf n)])) ∧ Ext lo ga w w'
theorem PatchV.at {b n c i : Nat} {e : TypeId} {A : Option Addr} {ps : List PatchV} {W : World} (h : W.ownsRow b e 1 (.slice A n c) n (ps.map PatchV.v)) (hi : i < n) : ∃ g p, A = some ⟨g, 0, none⟩ ∧ W.cell? ⟨g, i, none⟩ = some (.func (.func 74) #[] p.caps) ∧ Hid (ps[i]? = some p) := by
  obtain ⟨g, rfl, _, _⟩ := own_addr0 h (by omega)
  have hl : ps.length = n := by have := h.1; simpa using this
  have hx : ps[i]? = some (ps[i]'(by omega)) := List.getElem?_eq_getElem (by omega)
  have := (sl_of_own h).at (j := i) (u := (ps[i]'(by omega)).v) (by rw [List.getElem?_map, hx]; rfl)
  rw [Nat.zero_add] at this
  exact ⟨g, _, rfl, this, hx⟩

set_option maxRecDepth 100000 in
set_option maxHeartbeats 1000000 in
theorem program_any (lo ga n : Nat) (w : World) (h : St lo ga n w) (hn : n ≤ 100000) :
    Calls Try.prog 51 #[.pointer (some ⟨ga, 0, none⟩)] w (ProgPost lo ga n w) := by
  obtain ⟨V, P, cs, ps, h⟩ := h
  obtain ⟨A, c, rfl⟩ := own_form h.list
  obtain ⟨AP, cP, rfl⟩ := own_form h.pats
  have v0 : w.cell? ⟨ga, 0, none⟩ = some (.slice A n c) := by rw [cell_of_heap h.var]; rfl
  have v1 : w.cell? ⟨ga, 1, none⟩ = some (.slice AP n cP) := by rw [cell_of_heap h.var]; rfl
  have H := Lib.hid h
  clear h
  by_cases h4 : 400 < n
  · have hi : (400 : Int) < (n : Int) := by omega
    have HT : Hid (codeOf n = 5) := if_pos h4
    go_enter Try.func51, Try.ntmps51
    go_wp2
    go_ret2
    exact ⟨⟨none, 0, 0, by rw [HT.out]; rfl⟩, Ext.refl _ _ _⟩
  · have hi : ¬ (400 : Int) < (n : Int) := by omega
    have HT : Hid (codeOf n = 0) := if_neg h4
    have hE := enters_of' (P := Try.prog) Try.func74 (by kernel_rfl) rfl
    go_enter Try.func51, Try.ntmps51
    go_wp2
    go_loopw [17] (fun i wr => ∃ k : Nat, k ≤ n ∧ i = .int .i64 k ∧ Hid (∃ cs', AS lo ga n n (.slice A n c) (.slice AP n cP) cs' ps wr) ∧ Hid (Ext lo ga w wr)) (fun i _ => n - (intOf i).toNat)
    case atStart => exact ⟨0, Nat.zero_le _, rfl, ⟨_, H.out⟩, Ext.refl _ _ _⟩
    case round =>
      obtain ⟨k, hk, rfl, SR, ER⟩ := hrel
      by_cases hlt : k < n
      · obtain ⟨cs1, hs1⟩ := SR.out
        obtain ⟨g, p, rfl, q0, HX⟩ := PatchV.at hs1.pats hlt
        have HS1 := Lib.hid hs1
        clear hs1 v0 v1
        go_wp2_with fail
        have hrun := patch_any lo ga n n _ _ _ _ p _ HS1.out (HS1.out.ok p (List.mem_of_getElem? HX.out)) (by omega)
        rw [Array.empty_append] at hrun
        refine hrun.mono ?_
        clear hrun
        rintro e w2 ⟨rfl, e2, cs2, s2⟩
        have S2 : Hid (∃ cs', AS lo ga n n (.slice A n c) (.slice (some ⟨g, 0, none⟩) n cP) cs' ps w2) := ⟨cs2, s2⟩
        have E2 := Lib.hid (ER.out.trans e2)
        clear s2 e2 q0
        go_wp2
        go_roundw
        case rel => exact ⟨k + 1, by omega, by go_num, S2, E2⟩
        case measure => simp [intOf]; omega
      · obtain rfl : n = k := by omega
        obtain ⟨cs1, hs1⟩ := SR.out
        have u0 : wr.cell? ⟨ga, 0, none⟩ = some (.slice A n c) := by rw [cell_of_heap hs1.var]; rfl
        clear hs1 v0 v1
        go_wp2
        go_ret2
        exact ⟨⟨A, n, c, by rw [HT.out]; rfl⟩, ER.out⟩

def secTot (s : Nat) (rs : List R3) : Nat → Nat
  | 0 => 0
  | k + 1 => secTot s rs k + secLen s rs k
theorem secTot_le {s : Nat} {rs : List R3} {k m : Nat} (h : k ≤ m) : secTot s rs k ≤ secTot s rs m := by
  induction m with
  | zero => rw [Nat.le_zero.1 h]; exact Nat.le_refl _
  | succ m ih =>
    by_cases hk : k = m + 1
    · rw [hk]; exact Nat.le_refl _
    · exact Nat.le_trans (ih (by omega)) (Nat.le_add_right _ _)
theorem secLen_le {s : Nat} {S Q : Int} {rs : List R3} {q nr : Nat} (hs6 : s ≤ 6) (hS : S = s) (hl : rs.length = nr) (hq : q * s + s ≤ nr) (hok : ∀ x ∈ rs, ruleB S Q x = true) : secLen s rs q ≤ 1207 := by
  have h1 : ∀ k, k ≤ s → secSum s rs q k ≤ k * 200 := by
    intro k
    induction k with
    | zero => intro _; exact Nat.le_refl _
    | succ k ih =>
      intro hk
      have h2 := ih (by omega)
      have hx : rs[q * s + k]? = some (rs[q * s + k]'(by omega)) := List.getElem?_eq_getElem (by omega)
      have h3 : partLen s (ruleAt rs s q k) k ≤ 200 := by
        refine partLen_le hs6 hS (by omega) (hok _ ?_)
        unfold ruleAt; rw [hx]; exact List.getElem_mem _
      show secSum s rs q k + partLen s (ruleAt rs s q k) k ≤ _
      omega
  have := h1 s (Nat.le_refl _)
  unfold secLen
  omega

def TwoSlices (Z : Int) (w : World) (e : Ending) (w' : World) : Prop := (∃ v1 v2, e = .returned (.tuple #[v1, v2, .int .i64 Z])) ∧ Below w.heap.size w w'

set_option maxRecDepth 100000 in
set_option maxHeartbeats 4000000 in
theorem sectioned_any (s Q bm : Nat) (br nr cr : Nat) (rs : List R3) (w : World) (hsl : Sl w br 0 (rows R3.vs rs)) (hl : rs.length = nr) (hs : 1 ≤ s) (hs6 : s ≤ 6) (hQ : nr = Q * s) (hQ1 : Q ≤ 1000) (hok : ∀ x ∈ rs, ruleB s Q x = true)
    (hm : w.heap[bm]? = some (.cells #[.int .i64 s, .int .i64 Q, .slice (some ⟨br, 0, none⟩) nr cr] 34 (0, 0))) :
    Calls Try.prog 36 #[.int .i64 Q, .func (.func 37) #[] #[.pointer (some ⟨bm, 0, none⟩)]] w (TwoSlices (codeOf (secTot s rs Q)) w) := by
  obtain ⟨w2, HW2, b2, x1, x2⟩ := al2 w (.cells #[.slice none 0 0, .slice none 0 0] 85) (.cells #[] 86)
  have A2 : Hid (AS w.heap.size w.heap.size 0 0 (.slice none 0 0) (.slice none 0 0) [] [] w2) := ⟨Nat.le_refl _, x1, World.ownsRow_nil _ _ _ _, World.ownsRow_nil _ _ _ _, by simp⟩
  have V2 : Hid (SpotsV w.heap.size w.heap.size (.slice (some ⟨w.heap.size + 1, 0, none⟩) 0 0) 0 w2) := ⟨[], rfl, own_of_block (xs := []) (n := 0) (cap := 0) (s := 1) x2 (by omega) rfl (Nat.le_refl _) (by unfold maxLen; omega), by simp⟩
  have B2 := Lib.hid b2
  have HSL := Lib.hid hsl; have HL := Lib.hid hl; have HOK := Lib.hid hok; have HM := Lib.hid hm; have HQ := Lib.hid hQ
  have hE := enters_of' (P := Try.prog) Try.func37 (by kernel_rfl) rfl
  have HE := Lib.hid hE
  have wq : IntKind.i64.wrap ((Q : Int) + 1) = (Q : Int) + 1 := IntWalk.i64_in _ (by omega)
  have HLEN : Hid (∀ k, k < Q → k * s + s ≤ nr) := by
    intro k hk
    have := HQ.out
    have h1 : (k + 1) * s ≤ Q * s := Nat.mul_le_mul_right s hk
    rw [Nat.succ_mul] at h1
    omega
  clear b2 x1 x2 hsl hl hok hm hE hQ
  go_enter Try.func36, Try.ntmps36
  go_wp2_with fail
  rw [← HW2.out]
  go_loopw [8, 20] (fun sv i wr => ∃ (k : Nat) (B : Option Addr) (d : Nat), k ≤ Q + 1 ∧ i = .int .i64 k ∧ sv = .slice B k d ∧ Hid (SpotsV w.heap.size w.heap.size (.slice B k d) k wr) ∧ Hid (AS w.heap.size w.heap.size 0 0 (.slice none 0 0) (.slice none 0 0) [] [] wr) ∧ Hid (Below w.heap.size w wr)) (fun _ i _ => Q + 1 - (intOf i).toNat)
  case atStart => exact ⟨0, _, _, Nat.zero_le _, rfl, rfl, V2, A2, B2⟩
  case round =>
    obtain ⟨k, B, d, hk, rfl, rfl, SV, SR, BR⟩ := hrel
    by_cases hlt : k < Q + 1
    · have hli : (k : Int) < (Q : Int) + 1 := by omega
      obtain ⟨w4, HW4, b4, x4, y4⟩ := al2 wr (.cells #[.int .i64 0] 88) (.cells #[.pointer (some ⟨wr.heap.size, 0, none⟩)] 86)
      have SP4 : Hid (Spot w.heap.size w4 wr.heap.size) := ⟨BR.out.size, 0, x4⟩
      have SV4 := Lib.hid (SV.out.below b4)
      obtain ⟨xs, hx1, hx2, hx3⟩ := SV4.out
      have S4 := Lib.hid (SR.out.below b4)
      have B4 := Lib.hid (BR.out.trans (b4.mono BR.out.size))
      have src4 : Src 1 w4 (.slice (some ⟨wr.heap.size + 1, 0, none⟩) 1 1) 1 [.pointer (some ⟨wr.heap.size, 0, none⟩)] := Src.of_sl (sl_block y4) rfl
      have HX1 := Lib.hid hx1; have HX3 := Lib.hid hx3; have HX2 := Lib.hid hx2
      have hbs : w.heap.size ≤ w4.heap.size := B4.out.size
      clear x4 y4 b4 hx1 hx3
      go_wp2_with (at_builtin; rw [← HW4.out]; refine wpList_appx rfl _ _ _ rfl Try.underlying71 infoPSpot rfl (by omega) w.heap.size hx2 hbs rfl src4 rfl (by simp [Value.oneCell']) (by unfold maxLen; omega) (by omega) ?_; intro v5 w5 own5 hg5 hnil5; clear hnil5; obtain ⟨B5, d5, rfl⟩ := own_form own5; have S5 := Lib.hid (S4.out.rowgrow HX2.out (by simp) hg5); have SP5 : Hid (Spot w.heap.size w5 wr.heap.size) := (by (obtain ⟨hl5, x5, hx5⟩ := SP4.out); exact ⟨hl5, x5, grown_keep hg5 hx5 (own_ne_block HX2.out hx5 (by decide))⟩); have B5' := Lib.hid (B4.out.grown hg5 hbs (fun q hq => (HX2.out.lt q hq).1)); have SX5 : Hid (∀ s ∈ xs ++ [wr.heap.size], Spot w.heap.size w5 s) := (by (intro s hs); (rcases List.mem_append.1 hs with hs | hs); (obtain ⟨hl5, x5, hx5⟩ := HX3.out s hs); (exact ⟨hl5, x5, grown_keep hg5 hx5 (own_ne_block HX2.out hx5 (by decide))⟩); (rw [List.mem_singleton] at hs); (rw [hs]; exact SP5.out)); have SV5 : Hid (SpotsV w.heap.size w.heap.size (.slice B5 (k + 1) d5) (k + 1) w5) := ⟨xs ++ [wr.heap.size], by rw [List.length_append, HX1.out]; rfl, by rw [List.map_append]; exact own5, SX5.out⟩; clear own5 hg5 src4 hx2 hbs)
      go_roundw
      case rel => exact ⟨k + 1, _, _, by omega, by go_num, rfl, SV5, S5, B5'⟩
      case measure => simp [intOf]; omega
    · obtain rfl : k = Q + 1 := by omega
      have hli : ¬ ((Q + 1 : Nat) : Int) < (Q : Int) + 1 := by omega
      clear V2 A2 B2
      obtain ⟨w3, hw3⟩ : ∃ w3, w3 = wr := ⟨_, rfl⟩
      rw [← hw3] at SV SR BR ⊢
      clear hw3 wr
      have S3 : Hid (St w.heap.size w.heap.size (secTot s rs 0) w3) := ⟨_, _, _, _, SR.out⟩
      clear hli hk hlt SR
      obtain ⟨N, hN⟩ : ∃ N, N = Q + 1 := ⟨_, rfl⟩
      rw [← hN] at SV ⊢
      have hli2 : ¬ (N : Int) < (Q : Int) + 1 := by omega
      have HN := Lib.hid hN; clear hN
      go_wp2
      clear hli2
      go_loopw [29] (fun i wr => ∃ k : Nat, k ≤ Q ∧ i = .int .i64 k ∧ secTot s rs k ≤ 1607 ∧ Hid (St w.heap.size w.heap.size (secTot s rs k) wr) ∧ Hid (Ext w.heap.size w.heap.size w3 wr)) (fun i _ => Q - (intOf i).toNat)
      case atStart => exact ⟨0, Nat.zero_le _, rfl, Nat.zero_le _, S3, Ext.refl _ _ _⟩
      case round =>
        obtain ⟨k, hk, rfl, hb, SR, ER⟩ := hrel
        have hkN : k < N := by have := HN.out; omega
        obtain ⟨g, sp, hB, q0, hsp⟩ := (SV.out.ext ER.out).at hkN
        subst hB
        have SP := Lib.hid hsp
        clear hsp
        by_cases hlt : k < Q
        · go_wp2_with fail
          refine (here_any w.heap.size w.heap.size (secTot s rs k) sp wr SR.out SP.out).mono ?_
          rintro e w5 ⟨rfl, s5, e5⟩
          have S5 := Lib.hid s5
          have E5 := Lib.hid (ER.out.trans e5)
          obtain ⟨m, hm⟩ : ∃ m, m = secTot s rs k := ⟨_, rfl⟩
          rw [← hm] at hb s5
          obtain ⟨V, P, cs, ps, ha⟩ := s5
          obtain ⟨AV, cV, rfl⟩ := own_form ha.list
          have u0 : w5.cell? ⟨w.heap.size, 0, none⟩ = some (.slice AV m cV) := by rw [cell_of_heap ha.var]; rfl
          have HMK := Lib.hid hm
          clear ha e5 q0 hm
          by_cases h4 : 400 < m
          · have hi : (400 : Int) < (m : Int) := by omega
            have HT : Hid (codeOf (secTot s rs Q) = 5) := if_pos (by have h1 := secTot_le (s := s) (rs := rs) hk; have h2 := HMK.out; omega)
            have HBW := Lib.hid (BR.out.trans E5.out.below)
            go_wp2
            go_ret3
            exact ⟨⟨.slice none 0 0, .slice none 0 0, by rw [HT.out]; rfl⟩, HBW.out⟩
          · have hi : ¬ (400 : Int) < (m : Int) := by omega
            have hE := HE.out
            have hsec : Hid (secLen s rs k ≤ 1207) := secLen_le hs6 rfl HL.out (HLEN.out k hlt) HOK.out
            go_wp2_with fail
            refine (section1_any w.heap.size w.heap.size (secTot s rs k) s k bm s Q _ N _ _ br nr cr rs w5 S5.out (SV.out.ext E5.out) HSL.out.1 (HSL.out.below (BR.out.trans E5.out.below) HSL.out.1) HL.out rfl (by have := HN.out; omega) (by omega) hs hs6 (HLEN.out k hlt) (by have h1 := HQ.out; have h2 : Q * s ≤ 1000 * 6 := Nat.mul_le_mul hQ1 hs6; omega) HOK.out (by have h1 := hsec.out; have h2 := HMK.out; omega) (((BR.out.trans E5.out.below).block _ (heap_lt HM.out)).trans HM.out)).mono ?_
            rintro e w6 ⟨rfl, s6, e6⟩
            have S6 : Hid (St w.heap.size w.heap.size (secTot s rs (k + 1)) w6) := s6
            have E6 := Lib.hid (E5.out.trans e6)
            have hb6 : secTot s rs (k + 1) ≤ 1607 := by have h1 := hsec.out; have h2 := HMK.out; show secTot s rs k + secLen s rs k ≤ _; omega
            clear s6 e6 u0 hE
            go_wp2
            go_roundw
            case rel => exact ⟨k + 1, by omega, by go_num, hb6, S6, E6⟩
            case measure => simp [intOf]; omega
        · obtain rfl : Q = k := by omega
          clear S3
          go_wp2_with fail
          refine (here_any w.heap.size w.heap.size (secTot s rs Q) sp wr SR.out SP.out).mono ?_
          rintro e w5 ⟨rfl, s5, e5⟩
          have S5 := Lib.hid s5
          have E5 := Lib.hid (ER.out.trans e5)
          clear s5 e5 q0
          have hp := program_any w.heap.size w.heap.size (secTot s rs Q) w5 S5.out (by omega)
          by_cases h4 : 400 < secTot s rs Q
          · have HT : Hid (codeOf (secTot s rs Q) = 5) := if_pos h4
            unfold ProgPost at hp
            rw [HT.out] at hp
            have HP := Lib.hid hp
            clear hp
            rw [HT.out]
            go_wp2_with fail
            refine HP.out.mono ?_
            rintro e w6 ⟨⟨A1, m1, c1, rfl⟩, e6⟩
            have HBW := Lib.hid (BR.out.trans (E5.out.trans e6).below)
            clear e6
            go_wp2
            go_ret3
            exact ⟨⟨.slice none 0 0, .slice none 0 0, by rw [HT.out]; rfl⟩, HBW.out⟩
          · have HT : Hid (codeOf (secTot s rs Q) = 0) := if_neg h4
            unfold ProgPost at hp
            rw [HT.out] at hp
            have HP := Lib.hid hp
            clear hp
            rw [HT.out]
            go_wp2_with fail
            refine HP.out.mono ?_
            rintro e w6 ⟨⟨A1, m1, c1, rfl⟩, e6⟩
            have HBW := Lib.hid (BR.out.trans (E5.out.trans e6).below)
            have SV6 := Lib.hid (SV.out.ext (E5.out.trans e6))
            obtain ⟨w7, HW7, b7, x7⟩ := al1 w6 (.cells #[] 2)
            have O7 : Hid (w7.ownsRow w6.heap.size 2 1 (.slice (some ⟨w6.heap.size, 0, none⟩) 0 0) 0 []) := by rw [HW7.out]; exact own_empty w6 2 1
            have B7 := Lib.hid b7
            have hQd : (Q : Int) ≤ (d : Int) := by
              obtain ⟨xs, h1, h2, h3⟩ := SV6.out
              have h5 := own_capN h2
              have := HN.out; omega
            clear e6 b7 x7 ER SR SP hkN hk hlt S5 E5 SV wr
            go_wp2
            rw [← HW7.out]
            go_loopw [12, 69] (fun pv i wr => ∃ (k : Nat) (B : Option Addr) (d2 : Nat) (ys : List Value), k ≤ Q ∧ i = .int .i64 k ∧ pv = .slice B k d2 ∧ Hid (wr.ownsRow w6.heap.size 2 1 (.slice B k d2) k ys) ∧ Hid (Below w6.heap.size w6 wr)) (fun _ i _ => Q - (intOf i).toNat)
            case atStart => exact ⟨0, _, _, _, Nat.zero_le _, rfl, rfl, O7, B7⟩
            case round =>
              obtain ⟨k, B, d2, ys, hk, rfl, rfl, OR, B6⟩ := hrel
              by_cases hlt : k < Q
              · obtain ⟨g', sp', hB, q0, hsp⟩ := (SV6.out.below B6.out).at (i := k) (by have := HN.out; omega)
                obtain rfl : g = g' := by injection hB with hB; injection hB
                obtain ⟨-, x, hx⟩ := hsp
                have q1 : wr.cell? ⟨sp', 0, none⟩ = some (.int .i64 x) := by rw [cell_of_heap hx]; rfl
                obtain ⟨w8, HW8, b8, x8⟩ := al1 wr (.cells #[.int .i64 x] 2)
                have O8 := own_below' OR.out b8
                have B8 := Lib.hid (B6.out.trans (b8.mono B6.out.size))
                have hbs : w6.heap.size ≤ w8.heap.size := B8.out.size
                have src8 : Src 1 w8 (.slice (some ⟨wr.heap.size, 0, none⟩) 1 1) 1 [.int .i64 x] := Src.of_sl (sl_block x8) rfl
                have HO8 := Lib.hid O8
                clear hB hx x8 b8
                go_wp2_with (at_builtin; rw [← HW8.out]; refine wpList_appx rfl _ _ _ rfl Try.underlying25 infoInt64S rfl (by omega) w6.heap.size O8 hbs rfl src8 rfl (by simp [Value.oneCell']) (by unfold maxLen; omega) (by omega) ?_; intro v9 w9 own9 hg9 hnil9; clear hnil9; obtain ⟨B9, d9, rfl⟩ := own_form own9; have O9 := Lib.hid own9; have B9' := Lib.hid (B8.out.grown hg9 hbs (fun q hq => (HO8.out.lt q hq).1)); clear own9 hg9 src8 O8 hbs q0 q1)
                go_roundw
                case rel => exact ⟨k + 1, _, _, _, by omega, by go_num, rfl, O9, B9'⟩
                case measure => simp [intOf]; omega
              · obtain rfl : Q = k := by omega
                have HFB := Lib.hid (HBW.out.trans (B6.out.mono HBW.out.size))
                go_wp2
                go_ret3
                exact ⟨⟨.slice A1 m1 c1, .slice B Q d2, by rw [HT.out]; rfl⟩, HFB.out⟩

/-- What machineToProgram leaves: the code alone is told. -/
def MtpPost (Z : Int) (w : World) (e : Ending) (w' : World) : Prop := (∃ v1 v2, e = .returned (.tuple #[v1, v2, .int .i64 Z])) ∧ Below w.heap.size w w'
set_option maxRecDepth 100000 in
set_option maxHeartbeats 1000000 in
theorem machineToProgram_any (s Q br nr cr : Nat) (rs : List R3) (w : World) (hsl : Sl w br 0 (rows R3.vs rs)) (hl : rs.length = nr) (hs : 1 ≤ s) (hs6 : s ≤ 6) (hQ : nr = Q * s) (hQ1 : Q ≤ 1000) (hok : ∀ x ∈ rs, ruleB s Q x = true) :
    Calls Try.prog 22 #[.agg #[.int .i64 s, .int .i64 Q, .slice (some ⟨br, 0, none⟩) nr cr]] w (MtpPost (codeOf (secTot s rs Q)) w) := by
  obtain ⟨w1, HW1, b1, x1⟩ := al1 w (.cells #[.int .i64 s, .int .i64 Q, .slice (some ⟨br, 0, none⟩) nr cr] 34)
  have m1 : w1.cell? ⟨w.heap.size, 1, none⟩ = some (.int .i64 Q) := by rw [cell_of_heap x1]; rfl
  have HC := Lib.hid (sectioned_any s Q w.heap.size br nr cr rs w1 (hsl.below' b1) hl hs hs6 hQ hQ1 hok x1)
  have B1 := Lib.hid b1
  clear hsl hl hok x1 b1 hQ
  rw [HW1.out] at m1
  go_enter Try.func22, Try.ntmps22
  go_wp2_with fail
  rw [← HW1.out]
  refine HC.out.mono ?_
  rintro e w2 ⟨⟨v1, v2, rfl⟩, b2⟩
  have HB := Lib.hid (below_step B1.out b2)
  clear b2 m1
  go_wp2
  go_ret3
  exact ⟨⟨v1, v2, rfl⟩, HB.out⟩
end Go.Proofs.Ytdnkkmmkkfbhhaa

/- The reference's length of a machine's program: l14Starts and l20Fits. -/
namespace Go.Proofs.Ytdnkkmmkkfbhhaa
open Go.RowKit
set_option linter.all false

theorem secSum_le {s : Nat} {rs : List R3} {q k m : Nat} (h : k ≤ m) : secSum s rs q k ≤ secSum s rs q m := by
  induction m with
  | zero => rw [Nat.le_zero.1 h]; exact Nat.le_refl _
  | succ m ih =>
    by_cases hk : k = m + 1
    · rw [hk]; exact Nat.le_refl _
    · exact Nat.le_trans (ih (by omega)) (Nat.le_add_right _ _)
def StartsPost (L : Nat) (w : World) (e : Ending) (w' : World) : Prop := (∃ v, e = .returned (.tuple #[v, .int .i64 L])) ∧ Below w.heap.size w w'
set_option maxRecDepth 100000 in
set_option maxHeartbeats 4000000 in
theorem l14Starts_any (gm s Q br nr cr : Nat) (rs : List R3) (w : World) (m0 : w.cell? ⟨gm, 0, none⟩ = some (.int .i64 s)) (m1 : w.cell? ⟨gm, 1, none⟩ = some (.int .i64 Q)) (m2 : w.cell? ⟨gm, 2, none⟩ = some (.slice (some ⟨br, 0, none⟩) nr cr))
    (hsl : Sl w br 0 (rows R3.vs rs)) (hl : rs.length = nr) (hs : 1 ≤ s) (hs6 : s ≤ 6) (hQ : nr = Q * s) (hQ1 : Q ≤ 1000) (hok : ∀ x ∈ rs, ruleB s Q x = true) :
    Calls Try.prog 29 #[.pointer (some ⟨gm, 0, none⟩)] w (StartsPost (secTot s rs Q) w) := by
  obtain ⟨w1, HW1, b1, -⟩ := al1 w (.cells #[] 2)
  have O1 : Hid (w1.ownsRow w.heap.size 2 1 (.slice (some ⟨w.heap.size, 0, none⟩) 0 0) 0 []) := by rw [HW1.out]; exact own_empty w 2 1
  have B1 := Lib.hid b1
  have M0 := Lib.hid m0; have M1 := Lib.hid m1; have M2 := Lib.hid m2
  have HSL := Lib.hid hsl; have HL := Lib.hid hl; have HOK := Lib.hid hok; have HQ := Lib.hid hQ
  have HLEN : Hid (∀ k, k < Q → k * s + s ≤ nr) := by
    intro k hk
    have h1 : (k + 1) * s ≤ Q * s := Nat.mul_le_mul_right s hk
    rw [Nat.succ_mul] at h1
    rw [hQ]; exact h1
  have HTOT : Hid (∀ k, k ≤ Q → secTot s rs k ≤ k * 1207) := by
    intro k
    induction k with
    | zero => intro _; exact Nat.le_refl _
    | succ k ih =>
      intro hk
      have h1 := ih (by omega)
      have h2 := secLen_le hs6 rfl hl (HLEN.out k (by omega)) hok
      show secTot s rs k + secLen s rs k ≤ _
      omega
  have hnr : nr ≤ 6000 := by have h2 : Q * s ≤ 1000 * 6 := Nat.mul_le_mul hQ1 hs6; omega
  clear b1 m0 m1 m2 hsl hl hok hQ
  go_enter Try.func29, Try.ntmps29
  go_wp2_with fail
  rw [← HW1.out]
  go_loopw [4, 5, 6] (fun v a i wr => ∃ (q m : Nat) (A : Option Addr) (c : Nat) (ys : List Value), q ≤ Q ∧ m ≤ 1207000 ∧ i = .int .i64 q ∧ a = .int .i64 m ∧ v = .slice A q c ∧ Hid (m = secTot s rs q) ∧ Hid (wr.ownsRow w.heap.size 2 1 (.slice A q c) q ys) ∧ Hid (Below w.heap.size w wr)) (fun _ _ i _ => Q - (intOf i).toNat)
  case atStart => exact ⟨0, 0, _, _, [], Nat.zero_le _, Nat.zero_le _, rfl, rfl, rfl, rfl, O1, B1⟩
  case round =>
    obtain ⟨q, m, A, c, ys, hq, hm, rfl, rfl, rfl, HM, OR, BR⟩ := hrel
    have p0 := cell_step M0.out BR.out
    have p1 := cell_step M1.out BR.out
    by_cases hlt : q < Q
    · obtain ⟨w5, HW5, b5, x5⟩ := al1 wr (.cells #[.int .i64 m] 2)
      have O5 := own_below' OR.out b5
      have B5 := Lib.hid (BR.out.trans (b5.mono BR.out.size))
      have hbs : w.heap.size ≤ w5.heap.size := B5.out.size
      have src5 : Src 1 w5 (.slice (some ⟨wr.heap.size, 0, none⟩) 1 1) 1 [.int .i64 m] := Src.of_sl (sl_block x5) rfl
      have HO5 := Lib.hid O5
      clear x5 b5
      go_wp2_with (at_builtin; rw [← HW5.out]; refine wpList_appx rfl _ _ _ rfl Try.underlying25 infoInt64S rfl (by omega) w.heap.size O5 hbs rfl src5 rfl (by simp [Value.oneCell']) (by unfold maxLen; omega) (by omega) ?_; intro v6 w6 own6 hg6 hnil6; clear hnil6; obtain ⟨A6, c6, rfl⟩ := own_form own6; have O6 := Lib.hid own6; have B6 := Lib.hid (B5.out.grown hg6 hbs (fun q hq => (HO5.out.lt q hq).1)); have q0 := cell_step M0.out B6.out; clear own6 hg6 src5 O5 hbs)
      have HSM : Hid (∀ k, k ≤ s → secTot s rs q + (s + 1) + secSum s rs q k ≤ 1207000) := by
        intro k hk
        have h1 := HTOT.out (q + 1) (by omega)
        have h2 : secSum s rs q k ≤ secSum s rs q s := secSum_le hk
        have h3 : secTot s rs (q + 1) = secTot s rs q + (s + 1 + secSum s rs q s) := rfl
        omega
      obtain ⟨e, he⟩ : ∃ e : Nat, e = q * s := ⟨_, rfl⟩
      have w1' : IntKind.i64.wrap ((q : Int) * (s : Int)) = (e : Int) := by
        have h1 : ((q * s : Nat) : Int) = (q : Int) * (s : Int) := by simp
        have h2 := HLEN.out q hlt
        rw [← h1, he]; exact IntWalk.i64_in _ (by omega)
      have hes : e + s ≤ nr := by have h2 := HLEN.out q hlt; omega
      have HE := Lib.hid he
      have W1' := Lib.hid w1'
      clear he w1' p0 p1
      obtain ⟨wo, hwo⟩ : ∃ wo, wo = wr := ⟨_, rfl⟩
      rw [← hwo] at OR BR HW5
      clear hwo
      go_loopw [5, 7] (fun a i wr => ∃ (k m2 : Nat), k ≤ s ∧ m2 ≤ 1207000 ∧ i = .int .i64 k ∧ a = .int .i64 m2 ∧ Hid (m2 = secTot s rs q + (s + 1) + secSum s rs q k) ∧ Hid (Below w6.heap.size w6 wr)) (fun _ i _ => s - (intOf i).toNat)
      case atStart => exact ⟨0, m + (s + 1), Nat.zero_le _, by have h1 := HSM.out 0 (Nat.zero_le _); have h2 := HM.out; unfold secSum at h1; omega, rfl, by go_num, by have := HM.out; unfold Hid; show m + (s + 1) = secTot s rs q + (s + 1) + 0; omega, Below.refl _ _⟩
      case round =>
        obtain ⟨k, m2, hk, hm2, rfl, rfl, HM2, BR2⟩ := hrel
        have HBW := Lib.hid (B6.out.trans (BR2.out.mono B6.out.size))
        have k0 := cell_step M0.out HBW.out
        by_cases hlk : k < s
        · obtain ⟨i, hi⟩ : ∃ i : Nat, i = e + k := ⟨_, rfl⟩
          have w2 : IntKind.i64.wrap ((e : Int) + (k : Int)) = (i : Int) := by
            have h1 : ((e + k : Nat) : Int) = (e : Int) + (k : Int) := by simp
            rw [← h1, ← hi]; exact IntWalk.i64_in _ (by omega)
          have hin : i < nr := by omega
          have hiI : (i : Int) < (nr : Int) := by omega
          obtain ⟨x, HX⟩ := hget HL hin
          have HXR : Hid (ruleAt rs s q k = x) := by unfold Hid ruleAt; rw [← HE.out, ← hi, HX.out]; rfl
          obtain ⟨c0, c1, c2⟩ := (HSL.out.below' HBW.out).rec3 HX.out
          simp only [Nat.zero_add] at c0 c1 c2
          have k2 := cell_step M2.out HBW.out
          have w1' := W1'.out
          obtain ⟨y, hy⟩ : ∃ y : Nat, y = partLen s x k := ⟨_, rfl⟩
          have HCP : Hid (∀ W, W.cell? ⟨gm, 0, none⟩ = some (.int .i64 s) → Calls Try.prog 42 #[.pointer (some ⟨gm, 0, none⟩), .agg #[.int .i64 x.a, .int .i64 x.b, .int .i64 x.c], .int .i64 k] W fun e w' => e = .returned (.int .i64 y) ∧ Below W.heap.size W w') := fun W hW => by
            have := l14Part_any gm s k s Q x W hW hs hs6 (by omega) rfl (HOK.out x (List.mem_of_getElem? HX.out))
            rw [← hy] at this; exact this
          have HM3 : Hid (m2 + y = secTot s rs q + (s + 1) + secSum s rs q (k + 1)) := by
            have h1 := HM2.out; have h2 := HXR.out
            unfold Hid
            show m2 + y = secTot s rs q + (s + 1) + (secSum s rs q k + partLen s (ruleAt rs s q k) k)
            rw [h2]; omega
          have hm3 : m2 + y ≤ 1207000 := by have h1 := HSM.out (k + 1) (by omega); have h2 := HM3.out; omega
          have w3 : IntKind.i64.wrap ((m2 : Int) + (y : Int)) = ((m2 + y : Nat) : Int) := by rw [Int.natCast_add]; exact IntWalk.i64_in _ (by omega)
          have HI := Lib.hid hi
          clear hy hi hin
          go_wp2_with fail
          go_region_held3 (fun W => W.cell? ⟨gm, 0, none⟩ = some (.int .i64 s) ∧ W.cell? ⟨gm, 2, none⟩ = some (.slice (some ⟨br, 0, none⟩) nr cr) ∧ W.cell? ⟨br, i * 3, none⟩ = some (.int .i64 x.a) ∧ W.cell? ⟨br, i * 3 + 1, none⟩ = some (.int .i64 x.b) ∧ W.cell? ⟨br, i * 3 + 2, none⟩ = some (.int .i64 x.c)) (first | go_keep | exact ⟨k0, k2, c0, c1, c2⟩ | exact ⟨z0, z1, z2, z3, z4⟩)
            ((go_at_call 42; refine (HCP.out _ (by exact k0)).mono ?_; rintro e w8 ⟨rfl, b8'⟩; have b8 := below_drew_at b8'; have z0 := cell_step (by exact k0) b8; have z1 := cell_step (by exact k2) b8; have z2 := cell_step (by exact c0) b8; have z3 := cell_step (by exact c1) b8; have z4 := cell_step (by exact c2) b8))
          all_goals
            have HB8 := Lib.hid (below_step BR2.out b8)
            clear k0 k2 c0 c1 c2 z1 z2 z3 z4 b8 b8' w1' w2 w3 hiI
            go_wp2
            go_roundw
            case rel => exact ⟨k + 1, m2 + y, by omega, hm3, by go_num, by go_num, HM3, HB8⟩
            case measure => simp [intOf]; omega
        · obtain rfl : s = k := by omega
          have O9 := Lib.hid (own_below' O6.out BR2.out)
          go_wp2
          go_roundw
          case rel => exact ⟨q + 1, m2, _, _, _, by omega, hm2, by go_num, rfl, rfl, by have h1 := HM2.out; unfold Hid; show m2 = secTot s rs q + (s + 1 + secSum s rs q s); omega, O9, HBW⟩
          case measure => simp [intOf]; omega
    · obtain rfl : Q = q := by omega
      go_wp2
      go_ret2
      exact ⟨⟨.slice A Q c, by rw [← HM.out]; rfl⟩, BR.out⟩

set_option maxRecDepth 100000 in
set_option maxHeartbeats 1000000 in
theorem l20Fits_is (gm s Q br nr cr : Nat) (rs : List R3) (v : Bool) (hv : decide (secTot s rs Q ≤ 400) = v) (w : World) (m0 : w.cell? ⟨gm, 0, none⟩ = some (.int .i64 s)) (m1 : w.cell? ⟨gm, 1, none⟩ = some (.int .i64 Q)) (m2 : w.cell? ⟨gm, 2, none⟩ = some (.slice (some ⟨br, 0, none⟩) nr cr))
    (hsl : Sl w br 0 (rows R3.vs rs)) (hl : rs.length = nr) (hs : 1 ≤ s) (hs6 : s ≤ 6) (hQ : nr = Q * s) (hQ1 : Q ≤ 1000) (hok : ∀ x ∈ rs, ruleB s Q x = true) :
    Calls Try.prog 16 #[.pointer (some ⟨gm, 0, none⟩)] w fun e w' => e = .returned (.bool v) ∧ Below w.heap.size w w' := by
  have HC := Lib.hid (l14Starts_any gm s Q br nr cr rs w m0 m1 m2 hsl hl hs hs6 hQ hQ1 hok)
  obtain ⟨L, hL⟩ : ∃ L, L = secTot s rs Q := ⟨_, rfl⟩
  rw [← hL] at HC hv
  have e1 : decide ((L : Int) ≤ 400) = v := by rw [← hv]; exact decide_eq_decide.2 (by omega)
  clear hv hL m0 m1 m2 hsl hl hQ hok
  go_enter Try.func16, Try.ntmps16
  go_wp2_with fail
  refine HC.out.mono ?_
  rintro e w' ⟨⟨u, rfl⟩, hb⟩
  have HB := Lib.hid hb
  clear hb
  go_wp2
  go_ret
  exact ⟨rfl, HB.out⟩
end Go.Proofs.Ytdnkkmmkkfbhhaa

/- StepCost: the model, and the reference's walk. -/
namespace Go.Proofs.Ytdnkkmmkkfbhhaa
open Go.RowKit
set_option linter.all false

/-- What StepCost returns. -/
def stepCost (S Q : Int) (rs : List R3) (q : Int) (l r : List Int) : Int × Int :=
  if validMach S Q rs && goodB S Q q l r then
    if decide (secTot S.toNat rs Q.toNat ≤ 400) && (okOf (tapeN S.toNat l) && okOf (tapeN S.toNat r)) then
      (((costM S.toNat (ruleAt rs S.toNat q.toNat ((tapeN S.toNat r).getD 0 % S.toNat)) ((tapeN S.toNat l).getD 0) ((tapeN S.toNat r).getD 0) : Nat) : Int), 0)
    else (0, 5)
  else (0, 1)
theorem stepCost_bad {S Q : Int} {rs : List R3} {q : Int} {l r : List Int} (h : (validMach S Q rs && goodB S Q q l r) = false) : stepCost S Q rs q l r = (0, 1) := by
  unfold stepCost; rw [h]; rfl
/-- What a valid machine and configuration are. -/
structure Good (S Q : Int) (rs : List R3) (q : Int) (l r : List Int) (s nq k : Nat) : Prop where
  hS : S = s
  hQ : Q = nq
  hq : q = k
  s2 : 2 ≤ s
  s6 : s ≤ 6
  q1 : nq ≤ 1000
  len : rs.length = nq * s
  ok : ∀ x ∈ rs, ruleB s nq x = true
  kq : k < nq
  dl : Digs s l
  dr : Digs s r
theorem cellsB_digs {s : Nat} {l : List Int} (h : cellsB (s : Int) l = true) : Digs s l := by
  unfold cellsB at h
  rw [Bool.and_eq_true] at h
  exact fun x hx => (inB_iff _ _ _).1 (List.all_eq_true.1 h.1 x hx)
theorem good_of {S Q : Int} {rs : List R3} {q : Int} {l r : List Int} (h1 : validMach S Q rs = true) (h2 : goodB S Q q l r = true) : ∃ s nq k, Good S Q rs q l r s nq k := by
  unfold validMach at h1
  unfold goodB at h2
  rw [Bool.and_eq_true, Bool.and_eq_true, Bool.and_eq_true, decide_eq_true_eq, inB_iff, inB_iff] at h1
  rw [Bool.and_eq_true, Bool.and_eq_true, inB_iff] at h2
  obtain ⟨a1, a2, a3, a4⟩ := h1
  obtain ⟨b1, b2, b3⟩ := h2
  obtain ⟨s, rfl⟩ : ∃ s : Nat, S = s := ⟨S.toNat, by omega⟩
  obtain ⟨nq, rfl⟩ : ∃ n : Nat, Q = n := ⟨Q.toNat, by omega⟩
  obtain ⟨k, rfl⟩ : ∃ k : Nat, q = k := ⟨q.toNat, by omega⟩
  refine ⟨s, nq, k, rfl, rfl, rfl, by omega, by omega, by omega, ?_, fun x hx => List.all_eq_true.1 a4 x hx, by omega, cellsB_digs b2, cellsB_digs b3⟩
  have h : ((nq * s : Nat) : Int) = (s : Int) * (nq : Int) := by rw [Int.natCast_mul, Int.mul_comm]
  omega
theorem Good.rule {S Q : Int} {rs : List R3} {q : Int} {l r : List Int} {s nq k : Nat} (h : Good S Q rs q l r s nq k) (v : Nat) : rs[k * s + v % s]? = some (ruleAt rs s k (v % s)) ∧ ruleB s nq (ruleAt rs s k (v % s)) = true := by
  have h2 : (k + 1) * s ≤ nq * s := Nat.mul_le_mul_right s h.kq
  rw [Nat.succ_mul] at h2
  have h3 : v % s < s := Nat.mod_lt _ (by have := h.s2; omega)
  have hlt : k * s + v % s < rs.length := by rw [h.len]; omega
  have hx : rs[k * s + v % s]? = some (rs[k * s + v % s]'hlt) := List.getElem?_eq_getElem hlt
  have e : ruleAt rs s k (v % s) = rs[k * s + v % s]'hlt := by unfold ruleAt; rw [hx]; rfl
  rw [e]
  exact ⟨hx, h.ok _ (List.getElem_mem _)⟩
theorem stepCost_good' {S Q : Int} {rs : List R3} {q : Int} {l r : List Int} {s nq k : Nat} (h1 : validMach S Q rs = true) (h2 : goodB S Q q l r = true) (g : Good S Q rs q l r s nq k) : stepCost S Q rs q l r = if decide (secTot s rs nq ≤ 400) && (okOf (tapeN s l) && okOf (tapeN s r)) then (((costM s (ruleAt rs s k ((tapeN s r).getD 0 % s)) ((tapeN s l).getD 0) ((tapeN s r).getD 0) : Nat) : Int), 0) else (0, 5) := by
  have e1 := g.hS; have e2 := g.hQ; have e3 := g.hq
  subst e1 e2 e3
  unfold stepCost
  rw [h1, h2]
  rfl
theorem okOf_some {o : Option Nat} (h : okOf o = true) : ∃ n, o = some n := by
  cases o with
  | none => cases h
  | some n => exact ⟨n, rfl⟩
def SCPost (Z : Int × Int) (w : World) (e : Ending) (w' : World) : Prop := e = .returned (.tuple #[.int .i64 Z.1, .int .i64 Z.2]) ∧ Below w.heap.size w w'
end Go.Proofs.Ytdnkkmmkkfbhhaa

/- StepCost of the reference. -/
namespace Go.Proofs.Ytdnkkmmkkfbhhaa
open Go.RowKit
set_option linter.all false

theorem arg_sl {w : World} {g n : Nat} {xs : List Value} (h : Sl w g 0 xs) (hl : xs.length = n) : Arg w (some ⟨g, 0, none⟩) n xs := Arg.of_sl h hl

set_option maxRecDepth 100000 in
set_option maxHeartbeats 4000000 in
theorem specStepCost_any (S Q : Int) (g0 n0 c0 : Nat) (rs : List R3) (q : Int) (g1 n1 c1 : Nat) (l : List Int) (g2 n2 c2 : Nat) (r : List Int) (w : World) (wS : Wf64 S) (wQ : Wf64 Q) (h0 : Sl w g0 0 (rows R3.vs rs)) (l0 : rs.length = n0) (b0 : n0 ≤ 1048576) (d0 : n0 ≤ c0) (wq : Wf64 q) (h1 : Sl w g1 0 (l.map (Value.int .i64))) (l1 : l.length = n1) (b1 : n1 ≤ 1048576) (d1 : n1 ≤ c1) (h2 : Sl w g2 0 (r.map (Value.int .i64))) (l2 : r.length = n2) (b2 : n2 ≤ 1048576) (d2 : n2 ≤ c2) :
    Calls Try.prog 6 #[.agg #[.int .i64 S, .int .i64 Q, .slice (some ⟨g0, 0, none⟩) n0 c0], .agg #[.int .i64 q, .slice (some ⟨g1, 0, none⟩) n1 c1, .slice (some ⟨g2, 0, none⟩) n2 c2]] w fun e w' => e = .returned (.tuple #[.int .i64 (stepCost S Q rs q l r).1, .int .i64 (stepCost S Q rs q l r).2]) ∧ Below w.heap.size w w' := by
  obtain ⟨w2, HW2, B2, x2, y2⟩ := al2 w (.cells #[.int .i64 S, .int .i64 Q, .slice (some ⟨g0, 0, none⟩) n0 c0] 34) (.cells #[.int .i64 q, .slice (some ⟨g1, 0, none⟩) n1 c1, .slice (some ⟨g2, 0, none⟩) n2 c2] 36)
  have m0 : w2.cell? ⟨w.heap.size, 0, none⟩ = some (.int .i64 S) := by rw [cell_of_heap x2]; rfl
  have m1 : w2.cell? ⟨w.heap.size, 1, none⟩ = some (.int .i64 Q) := by rw [cell_of_heap x2]; rfl
  have m2 : w2.cell? ⟨w.heap.size, 2, none⟩ = some (.slice (some ⟨g0, 0, none⟩) n0 c0) := by rw [cell_of_heap x2]; rfl
  have k0 : w2.cell? ⟨w.heap.size + 1, 0, none⟩ = some (.int .i64 q) := by rw [cell_of_heap y2]; rfl
  have k1 : w2.cell? ⟨w.heap.size + 1, 1, none⟩ = some (.slice (some ⟨g1, 0, none⟩) n1 c1) := by rw [cell_of_heap y2]; rfl
  have k2 : w2.cell? ⟨w.heap.size + 1, 2, none⟩ = some (.slice (some ⟨g2, 0, none⟩) n2 c2) := by rw [cell_of_heap y2]; rfl
  have HS0 := Lib.hid (h0.below' B2)
  have HA1 : Hid (Arg w2 (some ⟨g1, 0, none⟩) n1 (l.map (Value.int .i64))) := (arg_sl h1 (by rw [List.length_map]; exact l1)).below B2
  have HA2 : Hid (Arg w2 (some ⟨g2, 0, none⟩) n2 (r.map (Value.int .i64))) := (arg_sl h2 (by rw [List.length_map]; exact l2)).below B2
  have HB2 := Lib.hid B2; have HL0 := Lib.hid l0
  have M0 := Lib.hid m0; have M1 := Lib.hid m1; have M2 := Lib.hid m2; have K0 := Lib.hid k0; have K1 := Lib.hid k1; have K2 := Lib.hid k2
  clear x2 y2 B2 h0 h1 h2 l0 l1 l2 m0 m1 m2 k0 k1 k2 wS wQ wq d0 d1 d2
  rcases Bool.eq_false_or_eq_true (validMach S Q rs) with hv | hv
  rotate_left
  · have HF := Lib.hid (stepCost_bad (q := q) (l := l) (r := r) (show (validMach S Q rs && goodB S Q q l r) = false by rw [hv]; rfl))
    have HV := Lib.hid hv
    clear hv
    rw [HF.out]
    go_enter Try.func6, Try.ntmps6
    go_wp2_with fail
    rw [← HW2.out]
    refine (l05Is_is w.heap.size S Q g0 0 n0 c0 rs false HV.out w2 M0.out M1.out M2.out HS0.out HL0.out b0).mono ?_
    rintro e w3 ⟨rfl, b3⟩
    have HB3 := Lib.hid (below_step HB2.out b3)
    clear b3
    go_wp2
    go_ret2
    exact ⟨rfl, HB3.out⟩
  have HV := Lib.hid hv
  have hSQ : (0 ≤ S ∧ S ≤ 1000) ∧ (0 ≤ Q ∧ Q ≤ 1000) := by
    unfold validMach at hv
    rw [Bool.and_eq_true, Bool.and_eq_true, Bool.and_eq_true, inB_iff, inB_iff] at hv
    omega
  clear hv
  have HIS := Lib.hid (l05Is_is w.heap.size S Q g0 0 n0 c0 rs true HV.out w2 M0.out M1.out M2.out HS0.out HL0.out b0)
  have HGD : Hid (∀ (v : Bool) (W : World), goodB S Q q l r = v → Below w2.heap.size w2 W → Calls Try.prog 15 #[.pointer (some ⟨w.heap.size, 0, none⟩), .pointer (some ⟨w.heap.size + 1, 0, none⟩)] W fun e w' => e = .returned (.bool v) ∧ ∃ q, w' = W.drewN q) := fun v W hv hW =>
    l05Good_is w.heap.size (w.heap.size + 1) S Q q _ _ n1 c1 n2 c2 l r v hv W (cell_step M0.out hW) (cell_step M1.out hW) (cell_step K0.out hW) (cell_step K1.out hW) (cell_step K2.out hW) hSQ.1 hSQ.2 (HA1.out.below hW) (HA2.out.below hW) b1 b2
  clear hSQ
  rcases Bool.eq_false_or_eq_true (goodB S Q q l r) with hg | hg
  rotate_left
  · have HF := Lib.hid (stepCost_bad (show (validMach S Q rs && goodB S Q q l r) = false by rw [hg, Bool.and_false]))
    have HG := Lib.hid hg
    clear hg
    rw [HF.out]
    go_enter Try.func6, Try.ntmps6
    go_wp2_with fail
    rw [← HW2.out]
    refine HIS.out.mono ?_
    rintro e w3 ⟨rfl, b3⟩
    have HB3 := Lib.hid b3
    clear b3
    go_wp2_with fail
    refine (HGD.out false w3 HG.out HB3.out).mono ?_
    rintro e w4 ⟨rfl, q9, rfl⟩
    have HBX := Lib.hid (below_drewN (below_step HB2.out HB3.out) q9)
    go_wp2
    go_ret2
    exact ⟨rfl, HBX.out⟩
  obtain ⟨s, nq, k, G⟩ := good_of HV.out hg
  have HF := Lib.hid (stepCost_good' HV.out hg G)
  have HG := Lib.hid hg
  have e1 := G.hS; have e2 := G.hQ; have e3 := G.hq
  subst e1 e2 e3
  have HGG := Lib.hid G
  clear hg G
  obtain ⟨vF, hvF⟩ : ∃ v, decide (secTot s rs nq ≤ 400) = v := ⟨_, rfl⟩
  obtain ⟨bb, hbb⟩ : ∃ b, (okOf (tapeN s l) && okOf (tapeN s r)) = b := ⟨_, rfl⟩
  rw [hvF, hbb] at HF
  have HVF := Lib.hid hvF; have HBB := Lib.hid hbb
  clear hvF hbb
  go_enter Try.func6, Try.ntmps6
  go_wp2_with fail
  rw [← HW2.out]
  refine HIS.out.mono ?_
  rintro e w3 ⟨rfl, b3⟩
  have HB3 := Lib.hid b3
  clear b3
  go_wp2_with fail
  refine (HGD.out true w3 HG.out HB3.out).mono ?_
  rintro e w4 ⟨rfl, q9, rfl⟩
  obtain ⟨w4, hw4⟩ : ∃ w4, w3.drewN q9 = w4 := ⟨_, rfl⟩
  have HB4 : Hid (Below w2.heap.size w2 w4) := by rw [← hw4]; exact below_drewN HB3.out q9
  rw [hw4]
  clear hw4 HB3 w3
  go_wp2_with fail
  have hs := HGG.out.s2
  refine (l20Fits_is w.heap.size s nq g0 n0 c0 rs vF HVF.out w4 (cell_step M0.out HB4.out) (cell_step M1.out HB4.out) (cell_step M2.out HB4.out) (HS0.out.below' HB4.out) HL0.out (by omega) HGG.out.s6 (by have h1 := HGG.out.len; have h2 := HL0.out; omega) HGG.out.q1 HGG.out.ok).mono ?_
  rintro e w5 ⟨rfl, b5⟩
  have HB5 := Lib.hid (below_step HB4.out b5)
  clear b5 HB4 w4
  cases vF with
  | false =>
    have HBX := Lib.hid (below_step HB2.out HB5.out)
    have HFB : Hid (stepCost s nq rs k l r = (0, 5)) := HF.out
    go_wp2
    go_ret2
    exact ⟨by rw [HFB.out]; rfl, HBX.out⟩
  | true =>
    go_wp2_with fail
    have MC : MCx w.heap.size (w.heap.size + 1) s nq g0 n0 c0 k (some ⟨g1, 0, none⟩) n1 c1 (some ⟨g2, 0, none⟩) n2 c2 w5 := ⟨cell_step M0.out HB5.out, cell_step M1.out HB5.out, cell_step M2.out HB5.out, cell_step K0.out HB5.out, cell_step K1.out HB5.out, cell_step K2.out HB5.out⟩
    have HMC := Lib.hid MC
    clear MC
    refine (l20Numbers_any w.heap.size (w.heap.size + 1) s nq g0 n0 c0 k _ n1 c1 _ n2 c2 l r _ _ w5 HMC.out (HA1.out.below HB5.out) (HA2.out.below HB5.out) b1 b2 (by omega) HGG.out.s6 HGG.out.dl HGG.out.dr rfl rfl).mono ?_
    rintro e w6 ⟨rfl, q8, rfl⟩
    rw [HBB.out]
    cases bb with
    | false =>
      have HBX := Lib.hid (below_drewN (below_step HB2.out HB5.out) q8)
      have HFB : Hid (stepCost s nq rs k l r = (0, 5)) := HF.out
      go_wp2
      go_ret2
      exact ⟨by rw [HFB.out]; rfl, HBX.out⟩
    | true =>
      have hbb := HBB.out
      rw [Bool.and_eq_true] at hbb
      obtain ⟨a, ha⟩ := okOf_some hbb.1
      obtain ⟨b, hb⟩ := okOf_some hbb.2
      have hr := HGG.out.rule b
      have HFB : Hid (stepCost s nq rs k l r = (((costM s (ruleAt rs s k (b % s)) a b : Nat) : Int), 0)) := by have := HF.out; rw [ha, hb] at this; exact this
      obtain ⟨w7, hw7⟩ : ∃ w7, w5.drewN q8 = w7 := ⟨_, rfl⟩
      have HB7 : Hid (Below w2.heap.size w2 w7) := by rw [← hw7]; exact below_drewN HB5.out q8
      have HM7 : Hid (MCx w.heap.size (w.heap.size + 1) s nq g0 n0 c0 k (some ⟨g1, 0, none⟩) n1 c1 (some ⟨g2, 0, none⟩) n2 c2 w7) := ⟨cell_step M0.out HB7.out, cell_step M1.out HB7.out, cell_step M2.out HB7.out, cell_step K0.out HB7.out, cell_step K1.out HB7.out, cell_step K2.out HB7.out⟩
      have HA := Lib.hid ha; have HB := Lib.hid hb; have HR := Lib.hid hr
      have hn : nq * s ≤ 6000 := Nat.le_trans (Nat.mul_le_mul HGG.out.q1 HGG.out.s6) (by omega)
      rw [hw7]
      clear hw7 hbb ha hb hr HMC
      go_wp2_with fail
      refine (l20Cost_any w.heap.size (w.heap.size + 1) s nq g0 n0 c0 k rs _ _ n1 c1 _ n2 c2 l r a b w7 HM7.out (HA1.out.below HB7.out) (HA2.out.below HB7.out) b1 b2 (by omega) HGG.out.s6 HGG.out.dl HGG.out.dr HA.out HB.out (HS0.out.below' HB7.out) (by have h1 := HGG.out.len; have h2 := HL0.out; omega) HL0.out (by have h1 := HGG.out.kq; have h2 := HGG.out.q1; omega) HR.out.1 HR.out.2).mono ?_
      rintro e w8 ⟨rfl, b8⟩
      have HBX := Lib.hid (below_step HB2.out (below_step HB7.out b8))
      clear b8
      go_wp2
      go_ret2
      exact ⟨by rw [HFB.out]; rfl, HBX.out⟩
end Go.Proofs.Ytdnkkmmkkfbhhaa

/- Valid configurations, by the program: validSide, configOf, ValidConfig. -/
namespace Go.Proofs.Ytdnkkmmkkfbhhaa
open Go.RowKit
set_option linter.all false

set_option maxRecDepth 100000 in
theorem sizeI64_any (A : Option Addr) (n c : Nat) (w : World) : Calls Try.prog 64 #[.slice A n c] w fun e w' => e = .returned (.int .i64 n) ∧ w = w' := by
  go_enter Try.func64, Try.ntmps64
  go_wp2
  go_ret
  exact ⟨rfl, rfl⟩

set_option maxRecDepth 100000 in
set_option maxHeartbeats 1000000 in
theorem validSideC_is (b n c : Nat) (xs : List Int) (S : Int) (v : Bool) (hv : cellsB S xs = v) (w : World) (hs : Sl w b 0 (xs.map (.int .i64))) (hl : xs.length = n) (hn : n ≤ 1048576) (hS : 2 ≤ S ∧ S ≤ 6) :
    Calls Try.prog 49 #[.slice (some ⟨b, 0, none⟩) n c, .int .i64 S, .int .i64 200] w fun e w' => e = .returned (.bool v) ∧ w = w' := by
  have HL := Lib.hid hl
  have hwS : IntKind.i64.wrap (S - 1) = S - 1 := IntWalk.i64_in _ (by omega)
  by_cases h2 : n ≤ 200
  rotate_left
  · have HF : Hid (v = false) := by unfold Hid; rw [← hv]; unfold cellsB; rw [hl, decide_eq_false h2, Bool.false_and, Bool.and_false]
    have hI : decide ((n : Int) ≤ 200) = false := decide_eq_false (by omega)
    have hI2 : ¬ (n : Int) ≤ 200 := by omega
    clear hv hl
    go_enter Try.func49, Try.ntmps49
    go_wp2_with fail
    refine (sizeI64_any _ _ _ _).mono ?_
    rintro e w' ⟨rfl, rfl⟩
    go_wp2_with fail
    go_ret
    exact ⟨ret_bool HF.out.symm, rfl⟩
  have hI2 : (n : Int) ≤ 200 := by omega
  cases ha : xs.all (inB · 0 (S - 1)) with
  | false =>
    have HF : Hid (v = false) := by unfold Hid; rw [← hv]; unfold cellsB; rw [ha]; rfl
    have HALL := Lib.hid ha
    clear hv hl ha
    go_enter Try.func49, Try.ntmps49
    go_wp2_with fail
    refine (sizeI64_any _ _ _ _).mono ?_
    rintro e w' ⟨rfl, rfl⟩
    go_wp2_with fail
    refine (allWithin_is b 0 n c xs 0 (S - 1) false HALL.out _ hs HL.out (by omega)).mono ?_
    rintro e w' ⟨rfl, rfl⟩
    go_wp2_with fail
    go_ret
    exact ⟨ret_bool HF.out.symm, rfl⟩
  | true =>
    have HALL := Lib.hid ha
    have HV : Hid (v = (decide (n = 0) || decide (xs.getD (n - 1) 0 ≠ 0))) := by unfold Hid; rw [← hv]; unfold cellsB; rw [ha, hl, decide_eq_true h2, Bool.true_and, Bool.true_and]
    clear hv hl ha
    rcases Nat.eq_zero_or_pos n with h0 | h0
    · have HF : Hid (v = true) := by unfold Hid; rw [HV.out, decide_eq_true h0, Bool.true_or]
      subst h0
      go_enter Try.func49, Try.ntmps49
      go_wp2_with fail
      refine (sizeI64_any _ _ _ _).mono ?_
      rintro e w' ⟨rfl, rfl⟩
      go_wp2_with fail
      refine (allWithin_is b 0 0 c xs 0 (S - 1) true HALL.out _ hs HL.out (by omega)).mono ?_
      rintro e w' ⟨rfl, rfl⟩
      go_wp2_with fail
      go_ret
      exact ⟨ret_bool HF.out.symm, rfl⟩
    · obtain ⟨p, hp⟩ : ∃ p, n = p + 1 := ⟨n - 1, by omega⟩
      obtain ⟨y, HY, hy⟩ := map_at (Value.int .i64) xs (k := p) (by have := HL.out; omega)
      have hcb := hs.at hy
      rw [Nat.zero_add] at hcb
      have HF : Hid (v = (y != 0)) := by
        unfold Hid
        have e1 : xs.getD (n - 1) 0 = y := by rw [hp, Nat.add_sub_cancel, List.getD_eq_getElem?_getD, HY.out]; rfl
        rw [HV.out, e1, decide_eq_false (by omega), Bool.false_or]
        by_cases hy0 : y = 0 <;> simp [hy0]
      have HSL := Lib.hid hs
      clear hy HV h0 hs
      subst hp
      have hz : ((p : Int) + 1 == 0) = false := by rw [beq_eq_false_iff_ne]; omega
      have hwp : IntKind.i64.wrap (p : Int) = (p : Int) := IntWalk.i64_in _ (by omega)
      go_enter Try.func49, Try.ntmps49
      go_wp2_with fail
      refine (sizeI64_any _ _ _ _).mono ?_
      rintro e w' ⟨rfl, rfl⟩
      go_wp2_with fail
      refine (allWithin_is b 0 (p + 1) c xs 0 (S - 1) true HALL.out _ HSL.out HL.out (by omega)).mono ?_
      rintro e w' ⟨rfl, rfl⟩
      go_wp2_with fail
      go_ret
      exact ⟨ret_bool HF.out.symm, rfl⟩

set_option maxRecDepth 100000 in
set_option maxHeartbeats 1000000 in
theorem configOf_is (S Q : Int) (g0 n0 c0 : Nat) (q : Int) (g1 n1 c1 : Nat) (l : List Int) (g2 n2 c2 : Nat) (r : List Int) (v : Bool) (hv : goodB S Q q l r = v) (w : World) (hS : 2 ≤ S ∧ S ≤ 6) (hQ : 1 ≤ Q ∧ Q ≤ 1000) (h1 : Sl w g1 0 (l.map (Value.int .i64))) (l1 : l.length = n1) (b1 : n1 ≤ 1048576) (h2 : Sl w g2 0 (r.map (Value.int .i64))) (l2 : r.length = n2) (b2 : n2 ≤ 1048576) :
    Calls Try.prog 35 #[.agg #[.int .i64 S, .int .i64 Q, .slice (some ⟨g0, 0, none⟩) n0 c0], .agg #[.int .i64 q, .slice (some ⟨g1, 0, none⟩) n1 c1, .slice (some ⟨g2, 0, none⟩) n2 c2]] w fun e w' => e = .returned (.bool v) ∧ Below w.heap.size w w' := by
  obtain ⟨w2, HW2, B2, x2, y2⟩ := al2 w (.cells #[.int .i64 S, .int .i64 Q, .slice (some ⟨g0, 0, none⟩) n0 c0] 34) (.cells #[.int .i64 q, .slice (some ⟨g1, 0, none⟩) n1 c1, .slice (some ⟨g2, 0, none⟩) n2 c2] 36)
  have m0 : w2.cell? ⟨w.heap.size, 0, none⟩ = some (.int .i64 S) := by rw [cell_of_heap x2]; rfl
  have k1 : w2.cell? ⟨w.heap.size + 1, 1, none⟩ = some (.slice (some ⟨g1, 0, none⟩) n1 c1) := by rw [cell_of_heap y2]; rfl
  have k2 : w2.cell? ⟨w.heap.size + 1, 2, none⟩ = some (.slice (some ⟨g2, 0, none⟩) n2 c2) := by rw [cell_of_heap y2]; rfl
  have HB2 := Lib.hid B2
  have wq : IntKind.i64.wrap (Q - 1) = Q - 1 := IntWalk.i64_in _ (by omega)
  obtain ⟨va, ha⟩ : ∃ v, inB q 0 (Q - 1) = v := ⟨_, rfl⟩
  obtain ⟨vb, hb⟩ : ∃ v, cellsB S l = v := ⟨_, rfl⟩
  obtain ⟨vc, hc⟩ : ∃ v, cellsB S r = v := ⟨_, rfl⟩
  have HF : Hid (v = (va && (vb && vc))) := by unfold Hid; rw [← hv, goodB, ha, hb, hc]
  have HA := Lib.hid ha
  have HVB := Lib.hid (validSideC_is g1 n1 c1 l S vb hb w2 (h1.below' B2) l1 b1 hS)
  have HVC := Lib.hid (validSideC_is g2 n2 c2 r S vc hc w2 (h2.below' B2) l2 b2 hS)
  clear x2 y2 B2 h1 h2 l1 l2 hv ha hb hc
  go_enter Try.func35, Try.ntmps35
  go_upto_region 1 with fail
  rw [← HW2.out]
  have k0 : w2.cell? ⟨w.heap.size + 1, 0, none⟩ = some (.int .i64 q) := by rw [HW2.out]; simp [go_sem]
  have m1 : w2.cell? ⟨w.heap.size, 1, none⟩ = some (.int .i64 Q) := by rw [HW2.out]; simp [go_sem]
  go_wp2_with fail
  refine (within_is q 0 (Q - 1) va HA.out _).mono ?_
  rintro e w' ⟨rfl, rfl⟩
  cases va with
  | false =>
    go_wp2_with fail
    go_ret
    exact ⟨ret_bool (by rw [HF.out]; rfl), HB2.out⟩
  | true =>
    go_wp2_with fail
    refine HVB.out.mono ?_
    rintro e w' ⟨rfl, rfl⟩
    cases vb with
    | false =>
      go_wp2_with fail
      go_ret
      exact ⟨ret_bool (by rw [HF.out]; rfl), HB2.out⟩
    | true =>
      go_wp2_with fail
      refine HVC.out.mono ?_
      rintro e w' ⟨rfl, rfl⟩
      go_wp2_with fail
      go_ret
      exact ⟨ret_bool (by rw [HF.out]; simp), HB2.out⟩

set_option maxRecDepth 100000 in
set_option maxHeartbeats 1000000 in
theorem validConfig_is (S Q : Int) (g0 n0 c0 : Nat) (rs : List R3) (q : Int) (g1 n1 c1 : Nat) (l : List Int) (g2 n2 c2 : Nat) (r : List Int) (v : Bool) (hv : (validMach S Q rs && goodB S Q q l r) = v) (w : World) (h0 : Sl w g0 0 (rows R3.vs rs)) (l0 : rs.length = n0) (b0 : n0 ≤ 1048576) (h1 : Sl w g1 0 (l.map (Value.int .i64))) (l1 : l.length = n1) (b1 : n1 ≤ 1048576) (h2 : Sl w g2 0 (r.map (Value.int .i64))) (l2 : r.length = n2) (b2 : n2 ≤ 1048576) :
    Calls Try.prog 21 #[.agg #[.int .i64 S, .int .i64 Q, .slice (some ⟨g0, 0, none⟩) n0 c0], .agg #[.int .i64 q, .slice (some ⟨g1, 0, none⟩) n1 c1, .slice (some ⟨g2, 0, none⟩) n2 c2]] w fun e w' => e = .returned (.bool v) ∧ Below w.heap.size w w' := by
  obtain ⟨w2, HW2, B2, x2, y2⟩ := al2 w (.cells #[.int .i64 S, .int .i64 Q, .slice (some ⟨g0, 0, none⟩) n0 c0] 34) (.cells #[.int .i64 q, .slice (some ⟨g1, 0, none⟩) n1 c1, .slice (some ⟨g2, 0, none⟩) n2 c2] 36)
  have HB2 := Lib.hid B2
  obtain ⟨va, ha⟩ : ∃ v, validMach S Q rs = v := ⟨_, rfl⟩
  rw [ha] at hv
  have HVM := Lib.hid (validMachine_is S Q g0 0 n0 c0 rs va ha w2 (h0.below' B2) l0 b0)
  have HH1 := Lib.hid (h1.below' B2); have HH2 := Lib.hid (h2.below' B2)
  have HX2 := Lib.hid x2; have HY2 := Lib.hid y2; have HV := Lib.hid hv; have L1 := Lib.hid l1; have L2 := Lib.hid l2
  have HSQ : Hid (va = true → (2 ≤ S ∧ S ≤ 6) ∧ (1 ≤ Q ∧ Q ≤ 1000)) := by
    intro h
    rw [h] at ha
    unfold validMach at ha
    rw [Bool.and_eq_true, Bool.and_eq_true, Bool.and_eq_true, inB_iff, inB_iff] at ha
    omega
  clear B2 x2 y2 h0 h1 h2 l0 l1 l2 hv ha
  go_enter Try.func21, Try.ntmps21
  go_upto_region 1 with fail
  rw [← HW2.out]
  have m0 : w2.cell? ⟨w.heap.size, 0, none⟩ = some (.int .i64 S) := by rw [cell_of_heap HX2.out]; rfl
  have m1 : w2.cell? ⟨w.heap.size, 1, none⟩ = some (.int .i64 Q) := by rw [cell_of_heap HX2.out]; rfl
  have m2 : w2.cell? ⟨w.heap.size, 2, none⟩ = some (.slice (some ⟨g0, 0, none⟩) n0 c0) := by rw [cell_of_heap HX2.out]; rfl
  have k0 : w2.cell? ⟨w.heap.size + 1, 0, none⟩ = some (.int .i64 q) := by rw [cell_of_heap HY2.out]; rfl
  have k1 : w2.cell? ⟨w.heap.size + 1, 1, none⟩ = some (.slice (some ⟨g1, 0, none⟩) n1 c1) := by rw [cell_of_heap HY2.out]; rfl
  have k2 : w2.cell? ⟨w.heap.size + 1, 2, none⟩ = some (.slice (some ⟨g2, 0, none⟩) n2 c2) := by rw [cell_of_heap HY2.out]; rfl
  go_wp2_with fail
  refine HVM.out.mono ?_
  rintro e w3 ⟨rfl, b3⟩
  replace m0 := cell_step m0 b3; replace m1 := cell_step m1 b3; replace m2 := cell_step m2 b3; replace k0 := cell_step k0 b3; replace k1 := cell_step k1 b3; replace k2 := cell_step k2 b3
  have HB3 := Lib.hid (below_step HB2.out b3)
  have H1 := Lib.hid (HH1.out.below' b3); have H2 := Lib.hid (HH2.out.below' b3)
  clear b3
  cases va with
  | false =>
    go_wp2_with fail
    go_ret
    exact ⟨ret_bool (by rw [← HV.out]; rfl), HB3.out⟩
  | true =>
    have hsq := HSQ.out rfl
    have HQ := Lib.hid hsq
    clear hsq
    go_wp2_with fail
    refine (configOf_is S Q g0 n0 c0 q g1 n1 c1 l g2 n2 c2 r v (by have := HV.out; rwa [Bool.true_and] at this) w3 HQ.out.1 HQ.out.2 H1.out L1.out b1 H2.out L2.out b2).mono ?_
    rintro e w4 ⟨rfl, b4⟩
    have HB4 := Lib.hid (below_step HB3.out b4)
    clear b4
    go_wp2_with fail
    go_ret
    exact ⟨rfl, HB4.out⟩
end Go.Proofs.Ytdnkkmmkkfbhhaa
