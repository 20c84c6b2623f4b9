/- The reference's copies of while programs: l22Own, l22Fit. -/
import Derived.Test.YtfmfpknigafnoaaCopyWhile
namespace Go.Proofs.Ytfmfpknigafnoaa
open Go.RowKit
set_option linter.all false

theorem infoExprW : (Try.prog.info? 85).map (fun i => (i.zero, i.size, i.bytes)) = some (some (.agg #[.int .i64 0, .int .i64 0]), 2, 16) := by kernel_rfl

set_option maxRecDepth 100000 in
set_option maxHeartbeats 2000000 in
theorem l22Own_any (A : Option Addr) (n c : Nat) (es : List ECommand) (w : World) (ha : Args 4 w A n (rows ECommand.vs es)) (hr : RdsCommand w es) (hf : Full es) (hn : n ≤ 1048576) (hts : sumCommand (es.map (·.d)) ≤ 1048576) :
    Calls Try.prog 104 #[.slice A n c] w fun z w' => (∃ v es', z = .returned v ∧ SGrid kndCommand w.heap.size w'.heap.size 87 85 2 v es' w' ∧ es'.map (·.d) = es.map (·.d)) ∧ Below w.heap.size w w' := by
  have HL : Hid (es.length = n) := by have := ha.1; rw [rows_len (s := 4) (fun _ => rfl)] at this; unfold Hid; omega
  have HS := Lib.hid hts; clear hts
  have HI := Lib.hid infoCommand
  have HI2 := Lib.hid infoExprW
  have hown0 : (w.alloc (.cells #[] 87)).ownsRow w.heap.size 87 4 (.slice (some ⟨w.heap.size, 0, none⟩) 0 0) 0 [] := own_empty w 87 4
  have hb0 := laid_below w (.cells #[] 87)
  go_enter Try.func104, Try.ntmps104
  go_wp2
  go_loopw [3, 4] (fun v i wr => ∃ (k : Nat) (es' : List ECommand), k ≤ n ∧ es'.length = k ∧ i = .int .i64 k ∧ wr.ownsRow w.heap.size 87 4 v k (rows ECommand.vs es') ∧ Inn 2 85 w.heap.size wr.heap.size (es'.flatMap ECommand.us) (es'.flatMap ECommand.its) wr ∧ Hid (es'.map (·.d) = (es.take k).map (·.d)) ∧ Below w.heap.size w wr) (fun _ i _ => n - (intOf i).toNat)
  case atStart => exact ⟨0, [], Nat.zero_le _, rfl, rfl, hown0, Inn.nil _ _ _ _ _, rfl, hb0⟩
  case round =>
    obtain ⟨k, es', hk, hkl, rfl, hown, hinn, HD, hB⟩ := hrel
    clear hown0 hb0
    have HK := Lib.hid hkl; clear hkl
    by_cases hlt : k < n
    rotate_left
    · obtain rfl : n = k := by omega
      go_wp2
      go_ret
      refine ⟨⟨_, rfl, es', ⟨?_, hinn, fun q hq => (hown.lt q hq).2⟩, ?_⟩, hB⟩
      · rw [HK.out]; exact hown
      · rw [HD.out, List.take_of_length_le (by have := HL.out; omega)]
    obtain ⟨b, off, rfl, hs⟩ := ha.sl hlt
    obtain ⟨e, HX⟩ := hget HL hlt
    have hrd := hr e (List.mem_of_getElem? HX.out)
    have hwl := sumCommand_at (xs := es.map (·.d)) (k := k) (x := e.d) (by rw [List.getElem?_map, HX.out]; rfl)
    have hst := HS.out
    have h1 := hf e (List.mem_of_getElem? HX.out)
    have p0 : wr.cell? ⟨b, off + k * 4, none⟩ = some (.int .i64 e.d.f0) := Sl.rec (f := ECommand.vs) (s := 4) (fun _ => rfl) (hs.below' hB) HX.out (j := 0) rfl
    have p1 : wr.cell? ⟨b, off + k * 4 + 1, none⟩ = some (.int .i64 e.d.f1) := Sl.rec (f := ECommand.vs) (s := 4) (fun _ => rfl) (hs.below' hB) HX.out (j := 1) rfl
    have p2 : wr.cell? ⟨b, off + k * 4 + 2, none⟩ = some (.int .i64 e.d.f2) := Sl.rec (f := ECommand.vs) (s := 4) (fun _ => rfl) (hs.below' hB) HX.out (j := 2) rfl
    have p3 : wr.cell? ⟨b, off + k * 4 + 3, none⟩ = some e.u3 := Sl.rec (f := ECommand.vs) (s := 4) (fun _ => rfl) (hs.below' hB) HX.out (j := 3) rfl
    have hbl : b < wr.heap.size := Nat.lt_of_lt_of_le hs.1 hB.size
    obtain ⟨⟨A3, c3, e3, a3⟩, -⟩ := hrd
    rw [e3] at p3
    obtain ⟨⟨f0, f1, f2, f3⟩, u3⟩ := e
    dsimp only at p0 p1 p2 p3 e3 h1 a3
    simp only [wlCommand] at hwl
    subst e3
    obtain ⟨n3, hn3⟩ : ∃ n, n = f3.length := ⟨_, rfl⟩
    rw [← hn3] at a3 p3 hwl h1
    have HN3 := Lib.hid hn3
    clear hn3
    obtain ⟨bx, ox, rfl, hsx⟩ := a3.sl (k := 0) (by omega)
    have hn3b : n3 ≤ 1048576 := by omega
    have HONE : Hid (∀ u ∈ rows R2.vs f3, u.oneCell' = true) := one_rows_Expr f3
    obtain ⟨w0, HW0, B0, x0, y0⟩ := al2 wr (.cells #[.int .i64 f0, .int .i64 f1, .int .i64 f2, .slice (some ⟨bx, ox, none⟩) n3 c3] 87) (.cells #[] 85)
    have HSZ : Hid (w0.heap.size = wr.heap.size + 1 + 1) := by unfold Hid; rw [HW0.out]; simp
    have hownE : w0.ownsRow (wr.heap.size + 1) 85 2 (.slice (some ⟨wr.heap.size + 1, 0, none⟩) 0 0) 0 [] :=
      ⟨by simp, .inr ⟨wr.heap.size + 1, 0, #[], rfl, Nat.le_refl _, y0, Nat.le_refl _, Nat.zero_le _, rfl, by simp⟩⟩
    have hsrc : Src 2 w0 (.slice (some ⟨bx, ox, none⟩) n3 c3) n3 (rows R2.vs f3) := Src.of_sl ((hsx.below' hB).below' B0) (by rw [rows_len R2.vs_len]; have := HN3.out; omega)
    have HX0 := Lib.hid x0
    clear a3 hwl hst h1 hs hsx hr ha hf x0 y0
    go_wp2_with (first
      | (at_builtin; rw [← HW0.out]; refine wpList_appx rfl _ _ _ rfl Try.underlying29 HI2.out rfl (by omega) (wr.heap.size + 1) hownE (by have := HSZ.out; omega) rfl hsrc rfl HONE.out (by unfold maxLen; omega) (by omega) ?_; intro v1 w1 hown1 hg1 hnil1; clear hnil1; rw [Nat.zero_add, List.nil_append] at hown1; obtain ⟨A', c', rfl⟩ := own_form hown1; have B1 := grown_below B0 hownE (Nat.le_succ _) hg1; have x1 := (hg1.block wr.heap.size (by have := HSZ.out; omega) (by intro h; simp [Value.ownBlock] at h)).trans HX0.out; have I1 := (Inn.nil 2 (wr.heap.size + 1) (wr.heap.size + 1) 85 w1).snoc (it := (n3, rows R2.vs f3)) hown1 (Nat.le_refl _) (Nat.le_refl _) (Nat.le_refl _) (by have := hg1.size; have := HSZ.out; omega); obtain ⟨w2, HW2, B2, x2, I2, SZ2⟩ : ∃ w2, Hid (w2 = (w1.setCell ⟨wr.heap.size, 3, none⟩ (.slice A' n3 c'))) ∧ Below wr.heap.size wr w2 ∧ w2.heap[wr.heap.size]? = some (.cells #[.int .i64 f0, .int .i64 f1, .int .i64 f2, .slice A' n3 c'] 87 (0, 0)) ∧ Inn 2 85 (wr.heap.size + 1) w1.heap.size [.slice A' n3 c'] [(n3, rows R2.vs f3)] w2 ∧ w1.heap.size = w2.heap.size := ⟨_, rfl, B1.setCell (p := ⟨wr.heap.size, 3, none⟩) (by simp) _, heap_set x1 (.slice A' n3 c'), I1.set_low (b := wr.heap.size) (o := 3) (by omega) _, by simp [World.setCell]⟩; have k3 : w1.cell? ⟨wr.heap.size, 3, none⟩ = some (.slice (some ⟨bx, ox, none⟩) n3 c3) := (by rw [cell_of_heap x1]; rfl); have g3 : w1.frozen? ⟨wr.heap.size, 3, none⟩ = false := frozen_of_heap x1; have k0 : w1.cell? ⟨wr.heap.size, 0, none⟩ = some (.int .i64 f0) := (by rw [cell_of_heap x1]; rfl); have k1 : w1.cell? ⟨wr.heap.size, 1, none⟩ = some (.int .i64 f1) := (by rw [cell_of_heap x1]; rfl); have k2 : w1.cell? ⟨wr.heap.size, 2, none⟩ = some (.int .i64 f2) := (by rw [cell_of_heap x1]; rfl); have hown2 := own_below' hown B2; have hB2 := below_step hB B2; have hin2 := (hinn.below B2).append (I2.lower (Nat.le_succ _)) hB.size (by have := B1.size; omega); have HIN := Lib.hid hin2; clear hin2 hown hinn hB I1 I2 hown1 hownE hsrc hg1 x1 x2 B0 p0 p1 p2 p3)
      | (at_builtin; rw [← HW2.out]; refine wpList_appg rfl _ _ _ rfl Try.underlying26 HI.out rfl (by omega) w.heap.size w2 hown2 hB2.size rfl 1 #[.int .i64 f0, .int .i64 f1, .int .i64 f2, .slice A' n3 c'] rfl (laid_below _ _) (heap_alloc_new _ _) rfl (by simp [Value.oneCell']) (by omega) (by unfold maxLen; omega) (by omega) ?_; intro g cap w3 hown3 hg3; have hB3 := grown_below hB2 hown2 (Nat.le_refl _) hg3; have HI3 := Lib.hid ((HIN.out.kept hown2 hg3 (by decide)).wide (by have := hg3.size; omega : w1.heap.size ≤ w3.heap.size)); clear hown2 hg3 hB2))
    have HD2 : Hid ((es' ++ [(⟨⟨f0, f1, f2, f3⟩, .slice A' n3 c'⟩ : ECommand)]).map (·.d) = (es.take (k + 1)).map (·.d)) := by unfold Hid; rw [List.map_append, HD.out, List.take_add_one, HX.out, List.map_append]; rfl
    go_roundw
    case rel =>
      refine ⟨k + 1, es' ++ [(⟨⟨f0, f1, f2, f3⟩, .slice A' n3 c'⟩ : ECommand)], by omega, by simp [HK.out], by go_num, ?_, ?_, HD2.out, hB3⟩
      · rw [rows_app, rows_one]; exact hown3
      · rw [List.flatMap_append, List.flatMap_append]
        have := HI3.out
        simp only [List.flatMap_cons, List.flatMap_nil, List.append_nil, ECommand.us, ECommand.its, ← HN3.out]
        exact this
    case measure => simp [intOf]; omega

end Go.Proofs.Ytfmfpknigafnoaa
