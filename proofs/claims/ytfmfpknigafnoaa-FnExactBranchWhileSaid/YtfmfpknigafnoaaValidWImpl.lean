/- The program's validCommands and ValidWhile. -/
import Derived.Test.YtfmfpknigafnoaaWhilePlain
namespace Go.Proofs.Ytfmfpknigafnoaa
open Go.RowKit
set_option linter.all false

theorem sumCommand_part (xs : List DCommand) (i l : Nat) : sumCommand ((xs.drop i).take l) ≤ sumCommand xs := by
  have h1 := sumCommand_le (xs.drop i) l
  have h : ∀ a b : List DCommand, sumCommand b ≤ sumCommand (a ++ b) := by intro a b; simp [sumCommand]
  have h2 := h (xs.take i) (xs.drop i)
  rw [List.take_append_drop] at h2
  omega
theorem vc_at {v : Bool} {xs : List DCommand} {k : Nat} {x : DCommand} (hx : xs[k]? = some x) (h : validCs (xs.drop k) = v) : (okC x && (if x.f0 = 0 then decide (x.f2 = 0) && validCs (xs.drop (k + 1))
      else if x.f0 = 1 then decide (x.f1 = 0) && (inB x.f2 0 (xs.drop (k + 1)).length && (validCs ((xs.drop (k + 1)).take x.f2.toNat) && validCs ((xs.drop (k + 1)).drop x.f2.toNat))) else false)) = v := by
  rw [← h, drop_at hx, validCs_cons]

set_option maxRecDepth 100000 in
set_option maxHeartbeats 2000000 in
theorem validCommands_is : ∀ (n : Nat) (A : Option Addr) (c : Nat) (es : List ECommand) (xs : List DCommand) (v : Bool) (w : World), Args 4 w A n (rows ECommand.vs es) → RdsCommand w es → es.map (·.d) = xs → xs.length = n → validCs xs = v → n ≤ 1048576 → n ≤ c → sumCommand xs ≤ 1048576 →
    Calls Try.prog 109 #[.slice A n c] w fun z w' => z = .returned (.bool v) ∧ Below w.heap.size w w' := by
  intro n
  induction n using Nat.strongRecOn with
  | _ n ih =>
  intro A c es xs v w ha hr hd hl hv hn hc ht
  have IH := Lib.hid ih; clear ih
  have HL := Lib.hid hl; have HD := Lib.hid hd; have HT := Lib.hid ht
  have HE : Hid (es.length = n) := by unfold Hid; rw [← hl, ← hd, List.length_map]
  have HV : Hid (validCs (xs.drop 0) = v) := by unfold Hid; rw [List.drop_zero]; exact hv
  clear hl hd hv ht
  go_enter Try.func109, Try.ntmps109
  go_wp2
  go_loopw [3] (fun i wr => ∃ k : Nat, k ≤ n ∧ i = .int .i64 k ∧ Below w.heap.size w wr ∧ Hid (validCs (xs.drop k) = v)) (fun i _ => n - (intOf i).toNat)
  case atStart => exact ⟨0, Nat.zero_le _, rfl, Below.refl _ _, HV⟩
  case round =>
    obtain ⟨k, hk, rfl, hB, HK⟩ := hrel
    by_cases hlt : k < n
    rotate_left
    · obtain rfl : k = n := by omega
      have HF : Hid (true = v) := by have := HK.out; rw [List.drop_of_length_le (by have := HL.out; omega)] at this; rw [validCs] at this; exact this
      go_wp2
      go_ret
      exact ⟨ret_bool HF.out, hB⟩
    obtain ⟨b, off, rfl, hs⟩ := ha.sl hlt
    obtain ⟨e, HX⟩ := hget HE hlt
    have HXD : Hid (xs[k]? = some e.d) := by unfold Hid; rw [← HD.out, List.getElem?_map, HX.out]; rfl
    have HQ := Lib.hid (vc_at HXD.out HK.out)
    have re := hr e (List.mem_of_getElem? HX.out)
    have hwl : e.d.f3.length ≤ 1048576 := Nat.le_trans (sumCommand_at HXD.out) HT.out
    have p0 : wr.cell? ⟨b, off + k * 4, none⟩ = some (.int .i64 e.d.f0) := Sl.rec (f := ECommand.vs) (s := 4) (fun _ => rfl) (hs.below' hB) HX.out (j := 0) rfl
    have p1 : wr.cell? ⟨b, off + k * 4 + 1, none⟩ = some (.int .i64 e.d.f1) := Sl.rec (f := ECommand.vs) (s := 4) (fun _ => rfl) (hs.below' hB) HX.out (j := 1) rfl
    have p2 : wr.cell? ⟨b, off + k * 4 + 2, none⟩ = some (.int .i64 e.d.f2) := Sl.rec (f := ECommand.vs) (s := 4) (fun _ => rfl) (hs.below' hB) HX.out (j := 2) rfl
    have p3 : wr.cell? ⟨b, off + k * 4 + 3, none⟩ = some e.u3 := Sl.rec (f := ECommand.vs) (s := 4) (fun _ => rfl) (hs.below' hB) HX.out (j := 3) rfl
    obtain ⟨⟨A3, c3, e3, a3⟩, -⟩ := re
    rw [e3] at p3
    clear e3
    obtain ⟨⟨f0, f1, f2, f3⟩, u3⟩ := e
    dsimp only at p0 p1 p2 p3 a3 hwl HQ HXD
    obtain ⟨n3, hn3⟩ : ∃ n, n = f3.length := ⟨_, rfl⟩
    rw [← hn3] at a3 hwl p3
    clear hn3
    have a3w := a3.below hB
    obtain ⟨w0, HW0, B0, x0⟩ := al1 wr (.cells #[.int .i64 f0, .int .i64 f1, .int .i64 f2, .slice A3 n3 c3] 87)
    have HX0 := Lib.hid x0; clear x0
    have hB0 := below_step hB B0
    obtain ⟨vE, hvE⟩ : ∃ u, validE f3 = u := ⟨_, rfl⟩
    have HVE := Lib.hid hvE; clear hvE
    go_wp2_with fail
    rw [← HW0.out]
    refine (implValidExpr_is A3 n3 c3 f3 vE HVE.out _ (a3w.below B0) hwl).mono ?_
    rintro z w1 ⟨rfl, b1⟩
    have hB1 := below_step hB0 b1
    have HX1 := Lib.hid ((b1.block _ (heap_lt HX0.out)).trans HX0.out)
    clear b1 p0 p1 p2 p3
    have k0 : w1.cell? ⟨wr.heap.size, 0, none⟩ = some (.int .i64 f0) := by rw [cell_of_heap HX1.out]; rfl
    have k1 : w1.cell? ⟨wr.heap.size, 1, none⟩ = some (.int .i64 f1) := by rw [cell_of_heap HX1.out]; rfl
    have k2 : w1.cell? ⟨wr.heap.size, 2, none⟩ = some (.int .i64 f2) := by rw [cell_of_heap HX1.out]; rfl
    cases vE
    · have HF : Hid (false = v) := by unfold Hid; have := HQ.out; rw [okC] at this; dsimp only at this; rw [HVE.out] at this; simpa using this
      go_wp2
      go_ret
      exact ⟨ret_bool HF.out, hB1⟩
    by_cases h0 : f0 = 0
    · subst h0
      obtain ⟨vI, hvI⟩ : ∃ u, inB f1 0 5 = u := ⟨_, rfl⟩
      have HVI := Lib.hid hvI; clear hvI
      cases vI
      · have HF : Hid (false = v) := by unfold Hid; have := HQ.out; rw [okC] at this; dsimp only at this; rw [HVE.out, HVI.out] at this; simpa using this
        go_wp2_with fail
        refine (isWhileVariable_is f1 false HVI.out _).mono ?_
        rintro z w2 ⟨rfl, rfl⟩
        go_wp2
        go_ret
        exact ⟨ret_bool HF.out, hB1⟩
      by_cases h2 : f2 = 0
      rotate_left
      · have HF : Hid (false = v) := by unfold Hid; have := HQ.out; rw [okC] at this; dsimp only at this; rw [HVE.out, HVI.out, if_pos rfl, decide_eq_false h2] at this; simpa using this
        have e2 : (f2 != 0) = true := by simpa using h2
        clear h2
        go_wp2_with fail
        refine (isWhileVariable_is f1 true HVI.out _).mono ?_
        rintro z w2 ⟨rfl, rfl⟩
        go_wp2
        go_ret
        exact ⟨ret_bool HF.out, hB1⟩
      · subst h2
        have HN : Hid (validCs (xs.drop (k + 1)) = v) := by unfold Hid; have := HQ.out; rw [okC] at this; dsimp only at this; rw [HVE.out, HVI.out, if_pos rfl] at this; simpa using this
        go_wp2_with fail
        refine (isWhileVariable_is f1 true HVI.out _).mono ?_
        rintro z w2 ⟨rfl, rfl⟩
        go_wp2
        go_roundw
        case rel => exact ⟨k + 1, by omega, by go_num, hB1, HN⟩
        case measure => simp [intOf]; omega
    have z0 : (f0 == 0) = false := by simpa using h0
    by_cases h1 : f0 = 1
    rotate_left
    · have z1 : (f0 == 1) = false := by simpa using h1
      have HF : Hid (false = v) := by unfold Hid; have := HQ.out; rw [if_neg h0, if_neg h1] at this; simpa using this
      clear h0 h1
      go_wp2
      go_ret
      exact ⟨ret_bool HF.out, hB1⟩
    subst h1
    clear h0 z0
    by_cases h1 : f1 = 0
    rotate_left
    · have z1 : (f1 != 0) = true := by simpa using h1
      have HF : Hid (false = v) := by unfold Hid; have := HQ.out; rw [if_neg (by omega), if_pos rfl, decide_eq_false h1] at this; simpa using this
      clear h1
      go_wp2
      go_ret
      exact ⟨ret_bool HF.out, hB1⟩
    subst h1
    have HIL : Hid (((xs.drop (k + 1)).length : Int) = (n : Int) - (k : Int) - 1) := by have := HL.out; unfold Hid; rw [List.length_drop]; omega
    obtain ⟨vI, hvI⟩ : ∃ u, inB f2 0 ((n : Int) - (k : Int) - 1) = u := ⟨_, rfl⟩
    have HVI := Lib.hid hvI; clear hvI
    cases vI
    · have HF : Hid (false = v) := by unfold Hid; have := HQ.out; rw [if_neg (by omega), if_pos rfl, HIL.out, HVI.out] at this; simpa using this
      go_wp2_with fail
      refine (within_is _ _ _ false HVI.out _).mono ?_
      rintro z w2 ⟨rfl, rfl⟩
      go_wp2
      go_ret
      exact ⟨ret_bool HF.out, hB1⟩
    obtain ⟨l, rfl⟩ : ∃ l : Nat, f2 = l := ⟨f2.toNat, by have := (inB_iff _ _ _).1 HVI.out; omega⟩
    have hln : k + 1 + l ≤ n := by have := (inB_iff _ _ _).1 HVI.out; omega
    obtain ⟨vR, hvR⟩ : ∃ u, validCs ((xs.drop (k + 1)).take l) = u := ⟨_, rfl⟩
    have HVR := Lib.hid hvR; clear hvR
    have HLS : Hid (((xs.drop (k + 1)).take l).length = l) := by have := HL.out; unfold Hid; rw [List.length_take, List.length_drop]; omega
    have HLE : Hid (((es.drop (k + 1)).take l).length = l) := by have := HE.out; unfold Hid; rw [List.length_take, List.length_drop]; omega
    have HDS : Hid (((es.drop (k + 1)).take l).map (·.d) = (xs.drop (k + 1)).take l) := by unfold Hid; rw [← HD.out, List.map_take, List.map_drop]
    have HTS : Hid (sumCommand ((xs.drop (k + 1)).take l) ≤ 1048576) := by
      exact Nat.le_trans (sumCommand_part xs (k + 1) l) HT.out
    have HRS : Hid (RdsCommand w1 ((es.drop (k + 1)).take l)) := fun e he => (hr e (List.mem_of_mem_drop (List.mem_of_mem_take he))).below hB1
    have HAS : Hid (Sl w1 b (off + (k + 1) * 4) (rows ECommand.vs ((es.drop (k + 1)).take l))) := Sl.part (s := 4) (fun _ => rfl) (hs.below' hB1) (k + 1) l
    have HV2 : Hid ((vR && validCs (xs.drop (k + 1 + l))) = v) := by
      unfold Hid
      have := HQ.out
      rw [okC] at this
      dsimp only at this
      rw [HVE.out, if_neg (by omega), if_pos rfl, HIL.out, HVI.out, Int.toNat_natCast, HVR.out, List.drop_drop] at this
      simpa [inB] using this
    go_wp2_with fail
    refine (within_is _ _ _ true HVI.out _).mono ?_
    rintro z w2 ⟨rfl, rfl⟩
    by_cases hck : c = k + 1
    · subst hck
      obtain rfl : l = 0 := by omega
      have HV0 : Hid (vR = true) := by have := HVR.out; rw [List.take_zero, validCs] at this; exact this.symm
      go_wp2_with fail
      refine (IH.out 0 (by omega) _ _ [] [] true _ (Args.of_nil _ _ _) (by intro e he; cases he) rfl rfl (by rw [validCs]) (by omega) (by omega) (by simp [sumCommand])).mono ?_
      rintro z w3 ⟨rfl, b3⟩
      have hB3 := below_step hB1 b3
      have HX3 := Lib.hid ((b3.block _ (heap_lt HX1.out)).trans HX1.out)
      have k3 : w3.cell? ⟨wr.heap.size, 2, none⟩ = some (.int .i64 ((0 : Nat) : Int)) := by rw [cell_of_heap HX3.out]; rfl
      clear b3 k0 k1 k2
      go_wp2
      go_roundw
      case rel => exact ⟨k + 1 + 0, by omega, by go_num, hB3, by have := HV2.out; rw [HV0.out] at this; exact this⟩
      case measure => simp [intOf]; omega
    · go_wp2_with fail
      refine (IH.out l (by omega) _ _ ((es.drop (k + 1)).take l) ((xs.drop (k + 1)).take l) vR _ (Args.of_sl HAS.out (by rw [rows_len (s := 4) (fun _ => rfl), HLE.out])) HRS.out HDS.out HLS.out HVR.out (by omega) (by omega) HTS.out).mono ?_
      rintro z w3 ⟨rfl, b3⟩
      have hB3 := below_step hB1 b3
      have HX3 := Lib.hid ((b3.block _ (heap_lt HX1.out)).trans HX1.out)
      have k3 : w3.cell? ⟨wr.heap.size, 2, none⟩ = some (.int .i64 (l : Int)) := by rw [cell_of_heap HX3.out]; rfl
      clear b3 k0 k1 k2
      cases vR
      · have HF : Hid (false = v) := by have := HV2.out; simpa [Hid] using this
        go_wp2
        go_ret
        exact ⟨ret_bool HF.out, hB3⟩
      have hkl : IntKind.i64.wrap ((k : Int) + (l : Int)) = ((k + l : Nat) : Int) := by rw [IntWalk.i64_in _ (by omega)]; omega
      go_wp2
      go_roundw
      case rel => exact ⟨k + l + 1, by omega, by go_num, hB3, by have := HV2.out; rw [show k + l + 1 = k + 1 + l by omega]; exact this⟩
      case measure => simp [intOf]; omega

set_option maxRecDepth 100000 in
theorem implValidWhile_any (b0 o0 n0 c0 : Nat) (e0 : List ECommand) (x0 : List DCommand) (w : World) (s0 : Sl w b0 o0 (rows ECommand.vs e0)) (r0 : RdsCommand w e0) (d0 : e0.map (·.d) = x0) (h0 : x0.length = n0) (m0 : n0 ≤ 1048576) (hc : n0 ≤ c0) (t0 : sumCommand x0 ≤ 1048576) (_ : ∀ x ∈ x0, x.wf) :
    Calls Try.prog 65 #[.slice (some ⟨b0, o0, none⟩) n0 c0] w fun z w' => z = .returned (.bool (validWhile x0)) ∧ Below w.heap.size w w' := by
  have L0 : e0.length = n0 := by rw [← h0, ← d0, List.length_map]
  have HL := Lib.hid h0; have HD := Lib.hid d0; have HT := Lib.hid t0
  clear h0 d0 t0
  by_cases h8 : n0 ≤ 80
  rotate_left
  · have HV : Hid (validWhile x0 = false) := by unfold Hid validWhile; rw [HL.out, decide_eq_false h8]; rfl
    go_enter Try.func65, Try.ntmps65
    go_wp2
    go_ret
    exact ⟨ret_bool HV.out.symm, Below.refl _ _⟩
  obtain ⟨v, hv⟩ : ∃ v, validCs x0 = v := ⟨_, rfl⟩
  have HV : Hid (validWhile x0 = v) := by unfold Hid validWhile; rw [HL.out, decide_eq_true h8, hv]; rfl
  have HV1 := Lib.hid hv; clear hv
  go_enter Try.func65, Try.ntmps65
  go_wp2_with fail
  refine (validCommands_is n0 _ c0 e0 x0 v _ (Args.of_sl s0 (by rw [rows_len (s := 4) (fun _ => rfl)]; omega)) r0 HD.out HL.out HV1.out m0 hc HT.out).mono ?_
  rintro z w1 ⟨rfl, b1⟩
  go_wp2
  go_ret
  exact ⟨ret_bool HV.out.symm, b1⟩

end Go.Proofs.Ytfmfpknigafnoaa
