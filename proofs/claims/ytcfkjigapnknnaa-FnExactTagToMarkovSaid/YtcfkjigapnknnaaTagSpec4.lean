/- TagToMarkov of the reference. -/
import Derived.Test.YtcfkjigapnknnaaTagSpec3
import Derived.Test.YtcfkjigapnknnaaTagSpec2
namespace Go.Proofs.Ytcfkjigapnknnaa
open Go.RowKit
set_option linter.all false

theorem endsB {v : Value} {a b : Bool} (h : a = b) : Ending.returned (.tuple #[v, .bool a]) = .returned (.tuple #[v, .bool b]) := by rw [h]

set_option maxRecDepth 100000 in
set_option maxHeartbeats 4000000 in
theorem l16TagRules_any (gt : Nat) (d : Int) (bw ow nw cw : Nat) (us : List Value) (ws : List (List Int)) (bh oh nh ch : Nat) (hs : List Int) (w : World) (hv : validTag d ws hs = true)
    (t0 : w.cell? ⟨gt, 0, none⟩ = some (.int .i64 d)) (t1 : w.cell? ⟨gt, 1, none⟩ = some (.slice (some ⟨bw, ow, none⟩) nw cw)) (t2 : w.cell? ⟨gt, 2, none⟩ = some (.slice (some ⟨bh, oh, none⟩) nh ch))
    (sw : Sl w bw ow us) (sr : Srcs 1 oneI w us ws) (lw : ws.length = nw) (hnw : nw ≤ 1048576) (hsum : sumLen ws ≤ 1048576) (au : AdrW us) (sh : Sl w bh oh (hs.map (.int .i64))) (lh : hs.length = nh) (hnh : nh ≤ 1048576) :
    Calls Try.prog 69 #[.pointer (some ⟨gt, 0, none⟩)] w fun e w' => ∃ V es xs, e = .returned (.tuple #[V, .bool (tagOk d ws hs)]) ∧ MkRow w.heap.size V es xs w' ∧ (tagOk d ws hs = true → xs = tagRules d ws hs) ∧ Below w.heap.size w w' := by
  obtain ⟨hd1, hd4, hn1, -, -, hws⟩ := validTag_parts hv
  rw [lw] at hn1
  have HWS : Hid (∀ x ∈ ws, x.length ≤ 1000) := fun x hx => (hws x hx).1
  have HLW := Lib.hid lw
  have HLH := Lib.hid lh
  have HAU := Lib.hid au
  clear hv hws hsum lh au
  obtain ⟨w1, HW1, B1, R1⟩ : ∃ w1, Hid (w1 = w.alloc (.cells #[] 117)) ∧ Below w.heap.size w w1 ∧ MkRow w.heap.size (.slice (some ⟨w.heap.size, 0, none⟩) 0 0) [] [] w1 := ⟨_, rfl, laid_below _ _, MkRow.nil w⟩
  have T0 := Lib.hid t0; have T1 := Lib.hid t1; have T2 := Lib.hid t2
  have t1a := cell_step (by exact t1) (laid_below w (.cells #[] 117))
  have t1b := cell_step (by exact t1) B1
  by_cases hf : 2 * nw ≤ 9
  rotate_left
  · have HF : Hid (tagOk d ws hs = false) := by unfold Hid tagOk; rw [lw, decide_eq_false (by omega)]; rfl
    clear lw t0 t1 t2
    go_enter Try.func69, Try.ntmps69
    go_wp2_with fail
    rw [← HW1.out]
    refine (l16Front_is gt _ nw cw _ t1b hnw).mono ?_
    rintro e w' ⟨rfl, rfl⟩
    go_wp2_with fail
    go_ret2
    exact ⟨_, [], [], endsB (by rw [HF.out]), MkRow.nilv _ _, (fun h => by rw [HF.out] at h; cases h), B1⟩
  have HEQ : Hid (tagRules d ws hs = rA nw nw ++ rB nw ws nw ++ rC nw (d - 1).toNat hs nw) := by unfold Hid; rw [tagRules_eq, lw]
  have HOK : Hid (tagOk d ws hs = validMks (tagRules d ws hs)) := by unfold Hid tagOk; rw [lw, decide_eq_true hf, Bool.true_and]
  obtain ⟨l, hl⟩ : ∃ l : Nat, d - 1 = (l : Int) := ⟨(d - 1).toNat, by omega⟩
  have wd : IntKind.i64.wrap (d - 1) = (l : Int) := by rw [IntWalk.i64_in _ (by omega)]; exact hl
  have hl3 : l ≤ 3 := by omega
  have HDL : Hid ((d - 1).toNat = l) := by unfold Hid; omega
  rw [HDL.out] at HEQ
  clear lw hl t0 t1 t2
  go_enter Try.func69, Try.ntmps69
  go_wp2_with fail
  rw [← HW1.out]
  refine (l16Front_is gt _ nw cw _ t1b hnw).mono ?_
  rintro e w' ⟨rfl, rfl⟩
  go_wp2_with fail
  clear t1a t1b
  go_loopw [4, 7] (fun V i wr => ∃ (k : Nat) (es : List EMarkovRule), k ≤ nw ∧ i = .int .i64 k ∧ MkRow w.heap.size V es (rA nw k) wr ∧ Below w.heap.size w wr) (fun _ i _ => nw - (intOf i).toNat)
  case atStart => exact ⟨0, _, Nat.zero_le _, rfl, R1, B1⟩
  case round =>
    obtain ⟨k, es, hk, rfl, R, B⟩ := hrel
    clear R1 B1 HW1
    obtain ⟨wo, rfl⟩ : ∃ wo, wo = wr := ⟨_, rfl⟩
    by_cases hlt : k < nw
    · go_wp2_with fail
      go_loopw [4, 8] (fun V i wr => ∃ (j : Nat) (es : List EMarkovRule), j ≤ nw ∧ i = .int .i64 j ∧ MkRow w.heap.size V es (rA2 nw k j) wr ∧ Below w.heap.size w wr) (fun _ i _ => nw - (intOf i).toNat)
      case atStart => exact ⟨0, es, Nat.zero_le _, rfl, by rw [rA2_zero]; exact R, B⟩
      case round =>
        obtain ⟨j, es2, hj, rfl, R2, B2⟩ := hrel
        clear R B
        by_cases hjlt : j < nw
        rotate_left
        · obtain rfl : j = nw := by omega
          rw [← rA_succ] at R2
          go_wp2_with fail
          go_roundw
          case rel => exact ⟨k + 1, es2, by omega, by go_num, R2, B2⟩
          case measure => simp [intOf]; omega
        have w1' : IntKind.i64.wrap ((nw : Int) + (k : Int)) = (nw : Int) + (k : Int) := IntWalk.i64_in _ (by omega)
        obtain ⟨A, c, rfl⟩ := own_form R2.acc.own
        obtain ⟨m, hm⟩ : ∃ m, es2.length = m := ⟨_, rfl⟩
        have hm20 : m ≤ 20 := by rw [← hm, R2.len, rA2_len]; have : k * nw ≤ 4 * 4 := Nat.mul_le_mul (by omega) (by omega); omega
        rw [hm]
        have HM := Lib.hid hm
        have own0 := R2.acc.own
        rw [hm] at own0
        clear hm
        obtain ⟨wa, HWA, BA, xa⟩ := al1 wr (.cells #[.int .i64 ((nw : Int) + (k : Int)), .int .i64 j] 2)
        obtain ⟨wb, HWB, BB, xb⟩ := al1 wa (.cells #[.int .i64 j, .int .i64 ((nw : Int) + (k : Int))] 2)
        have sza : wa.heap.size = wr.heap.size + 1 := by rw [HWA.out]; simp
        have szb : wb.heap.size = wr.heap.size + 1 + 1 := by rw [HWB.out, ← sza]; simp
        have q0 : Wd wr.heap.size (.slice (some ⟨wr.heap.size, 0, none⟩) 2 2) [(nw : Int) + (k : Int), (j : Int)] wa := by rw [HWA.out]; exact Wd.laid wr [(nw : Int) + (k : Int), (j : Int)] _ rfl (by simp)
        have q1 : Wd wa.heap.size (.slice (some ⟨wr.heap.size + 1, 0, none⟩) 2 2) [(j : Int), (nw : Int) + (k : Int)] wb := by rw [HWB.out, ← sza]; exact Wd.laid wa [(j : Int), (nw : Int) + (k : Int)] _ rfl (by simp)
        obtain ⟨wc, HWC, BC, xc⟩ := al1 wb (.cells #[.slice (some ⟨wr.heap.size, 0, none⟩) 2 2, .slice (some ⟨wr.heap.size + 1, 0, none⟩) 2 2, .bool false] 117)
        have slc : Src 3 wc (.slice (some ⟨wr.heap.size + 1 + 1, 0, none⟩) 1 1) 1 [.slice (some ⟨wr.heap.size, 0, none⟩) 2 2, .slice (some ⟨wr.heap.size + 1, 0, none⟩) 2 2, .bool false] := by rw [← szb]; exact Src.of_sl ⟨heap_lt xc, fun q v hq => by rw [cell_of_heap xc]; simpa using hq⟩ rfl
        have Bac := below_step (below_step BA BB) BC
        have ownc := own_below' own0 Bac
        have hsz := Nat.le_trans B2.size Bac.size
        have BW := below_step B2 Bac
        clear xa xb xc sza szb own0
        go_wp2_with (at_builtin; rw [← HWA.out, ← HWB.out, ← HWC.out]; refine wpList_appx rfl _ _ _ rfl Try.underlying58 infoMarkovRule rfl (by omega) w.heap.size ownc hsz rfl slc rfl (one_all rfl) (by unfold maxLen; omega) (by omega) ?_; intro V4 w4 own4 hg4 hnil4; clear hnil4; have BG := grown_below BW ownc (Nat.le_refl _) hg4; obtain ⟨A4, c4, rfl⟩ := own_form own4)
        have R5 : MkRow w.heap.size (.slice A4 (m + 1) c4) (es2 ++ [⟨⟨[(nw : Int) + (k : Int), (j : Int)], [(j : Int), (nw : Int) + (k : Int)], false⟩, .slice (some ⟨wr.heap.size, 0, none⟩) 2 2, .slice (some ⟨wr.heap.size + 1, 0, none⟩) 2 2⟩]) (rA2 nw k (j + 1)) w4 := by
          have h1 := R2.push B2.size BA q0 BB q1 BC (by rw [HM.out]; exact hg4) (f2 := false) (by rw [HM.out]; exact own4)
          rw [rA2_succ]; exact h1
        clear R2 q0 q1 BA BB BC slc Bac ownc hsz BW own4 hg4
        go_roundw
        case rel => exact ⟨j + 1, _, by omega, by go_num, R5, BG⟩
        case measure => simp [intOf]; omega
    · obtain rfl : k = nw := by omega
      go_wp2_with fail
      go_loopw [4, 9] (fun V i wr => ∃ (j : Nat) (es : List EMarkovRule), j ≤ k ∧ i = .int .i64 j ∧ MkRow w.heap.size V es (rA k k ++ rB k ws j) wr ∧ Below w.heap.size w wr) (fun _ i _ => k - (intOf i).toNat)
      case atStart => exact ⟨0, es, Nat.zero_le _, rfl, by rw [rB_zero, List.append_nil]; exact R, B⟩
      case round =>
        obtain ⟨j, es2, hj, rfl, R2, B2⟩ := hrel
        clear R B
        obtain ⟨wo2, rfl⟩ : ∃ wo2, wo2 = wr := ⟨_, rfl⟩
        by_cases hjlt : j < k
        · obtain ⟨x, HX⟩ := hget HLW hjlt
          have w1' : IntKind.i64.wrap ((k : Int) + (j : Int)) = (k : Int) + (j : Int) := IntWalk.i64_in _ (by omega)
          obtain ⟨A, c, rfl⟩ := own_form R2.acc.own
          obtain ⟨m, hm⟩ : ∃ m, es2.length = m := ⟨_, rfl⟩
          have hm20 : m ≤ 20 := by rw [← hm, R2.len, List.length_append, rA_len, rB_len _ _ _ (by have := HLW.out; omega)]; have : k * k ≤ 4 * 4 := Nat.mul_le_mul (by omega) (by omega); omega
          rw [hm]
          have HM := Lib.hid hm
          have own0 := R2.acc.own
          rw [hm] at own0
          clear hm
          obtain ⟨wa, HWA, BA, xa⟩ := al1 wo2 (.cells #[.int .i64 ((k : Int) + (j : Int))] 2)
          have q0 : Wd wo2.heap.size (.slice (some ⟨wo2.heap.size, 0, none⟩) 1 1) [(k : Int) + (j : Int)] wa := by rw [HWA.out]; exact Wd.laid wo2 [(k : Int) + (j : Int)] _ rfl (by simp)
          have Ba := below_step B2 BA
          obtain ⟨g, hu, hsx⟩ := word_adr (sr.below Ba) HAU.out HX.out
          have hxl : x.length ≤ 1000 := HWS.out x (List.mem_of_getElem? HX.out)
          obtain ⟨mx, hmx⟩ : ∃ m, x.length = m := ⟨_, rfl⟩
          rw [hmx] at hu hxl
          have HMX := Lib.hid hmx
          have l1 := cell_step (by exact T1.out) Ba
          have lu := (sw.below' Ba).at hu
          rw [HWA.out] at l1 lu
          clear xa hmx hu
          go_wp2_with fail
          rw [← HWA.out]
          refine (l00OwnA_any g 0 mx mx x _ hsx HMX.out (by omega)).mono ?_
          rintro e wb ⟨g2, d2, rfl, own2, BB, hd2⟩
          have q1 := Wd.of_own own2 (by intro h; cases h)
          obtain ⟨wc, HWC, BC, xc⟩ := al1 wb (.cells #[.slice (some ⟨wo2.heap.size, 0, none⟩) 1 1, .slice (some ⟨g2, 0, none⟩) mx d2, .bool false] 117)
          have slc : Src 3 wc (.slice (some ⟨wb.heap.size, 0, none⟩) 1 1) 1 [.slice (some ⟨wo2.heap.size, 0, none⟩) 1 1, .slice (some ⟨g2, 0, none⟩) mx d2, .bool false] := Src.of_sl ⟨heap_lt xc, fun q v hq => by rw [cell_of_heap xc]; simpa using hq⟩ rfl
          have Bac := below_step (below_step BA BB) BC
          have ownc := own_below' own0 Bac
          have hsz := Nat.le_trans B2.size Bac.size
          have BW := below_step B2 Bac
          clear own2 l1 lu hsx hd2 xc own0
          go_wp2_with (at_builtin; rw [← HWC.out]; refine wpList_appx rfl _ _ _ rfl Try.underlying58 infoMarkovRule rfl (by omega) w.heap.size ownc hsz rfl slc rfl (one_all rfl) (by unfold maxLen; omega) (by omega) ?_; intro V4 w4 own4 hg4 hnil4; clear hnil4; have BG := grown_below BW ownc (Nat.le_refl _) hg4; obtain ⟨A4, c4, rfl⟩ := own_form own4)
          have R5 : MkRow w.heap.size (.slice A4 (m + 1) c4) (es2 ++ [⟨⟨[(k : Int) + (j : Int)], x, false⟩, .slice (some ⟨wo2.heap.size, 0, none⟩) 1 1, .slice (some ⟨g2, 0, none⟩) mx d2⟩]) (rA k k ++ rB k ws (j + 1)) w4 := by
            have h1 := R2.push B2.size BA q0 BB q1 BC (by rw [HM.out]; exact hg4) (f2 := false) (by rw [HM.out]; exact own4)
            rw [rB_succ HX.out, ← List.append_assoc]; exact h1
          clear R2 q0 q1 BA BB BC slc Bac ownc hsz BW own4 hg4
          go_roundw
          case rel => exact ⟨j + 1, _, by omega, by go_num, R5, BG⟩
          case measure => simp [intOf]; omega
        · obtain rfl : j = k := by omega
          obtain ⟨xs0, HXS0⟩ : ∃ xs0, Hid (xs0 = rA j j ++ rB j ws j) := ⟨_, rfl⟩
          have HL0 : Hid (xs0.length ≤ 20) := by
            unfold Hid; rw [HXS0.out, List.length_append, rA_len, rB_len _ _ _ (by have := HLW.out; omega)]
            have : j * j ≤ 4 * 4 := Nat.mul_le_mul (by omega) (by omega)
            omega
          have HSH0 : Hid (Short xs0) := by unfold Hid; rw [HXS0.out]; exact (short_rA j j).app (short_rB j ws HWS.out j (by have := HLW.out; omega))
          rw [← HXS0.out] at R2
          have hpos : 0 < xs0.length := by rw [HXS0.out, List.length_append, rB_len _ _ _ (by have := HLW.out; omega)]; omega
          have HPOS := Lib.hid hpos; clear hpos
          go_wp2_with fail
          go_loopw [4, 10] (fun V i wr => ∃ (q : Nat) (es : List EMarkovRule) (acc : List DMarkovRule), q ≤ j ∧ i = .int .i64 q ∧ MkRow w.heap.size V es acc wr ∧ Below w.heap.size w wr ∧ Hid (MkRel acc (xs0 ++ rC j l hs q)) ∧ Hid (acc.length ≤ 60 + q) ∧ Hid (Short acc) ∧ Hid (0 < acc.length)) (fun _ i _ => j - (intOf i).toNat)
          case atStart => exact ⟨0, es2, xs0, Nat.zero_le _, rfl, R2, B2, .inl (by rw [rC_zero, List.append_nil]), by have := HL0.out; unfold Hid; omega, HSH0, HPOS⟩
          case round =>
            obtain ⟨q, es3, acc, hq, rfl, R3, B3, HREL, HLEN, HSH, HP⟩ := hrel
            clear R2 B2
            obtain ⟨wo3, rfl⟩ : ∃ wo3, wo3 = wr := ⟨_, rfl⟩
            by_cases hqlt : q < j
            rotate_left
            · obtain rfl : q = j := by omega
              have hvq : Hid (tagRules d ws hs = xs0 ++ rC q l hs q) := by unfold Hid; rw [HEQ.out, HXS0.out]
              have HSUM : Hid (sumMarkovRule acc ≤ 1048576) := by have h1 := HSH.out.sum; have h2 := HLEN.out; unfold Hid; omega
              obtain ⟨gV, cV, rfl, hcV, slV⟩ := R3.addr HP.out
              obtain ⟨m, hm⟩ : ∃ m, acc.length = m := ⟨_, rfl⟩
              have hm3 : m ≤ 300 := by have := HLEN.out; omega
              rw [hm] at hcV ⊢
              have HM := Lib.hid hm; clear hm
              obtain ⟨v, hvd⟩ : ∃ v, validMks acc = v := ⟨_, rfl⟩
              have HVD := Lib.hid hvd; clear hvd
              have HOK2 : Hid (tagOk d ws hs = v) := by
                unfold Hid; rw [HOK.out, hvq.out]
                cases v with
                | true => rw [← HREL.out.yes HVD.out]; exact HVD.out
                | false => exact HREL.out.no HVD.out
              have HXE : Hid (tagOk d ws hs = true → acc = tagRules d ws hs) := by
                intro h; rw [hvq.out]; exact HREL.out.yes (by rw [HVD.out, ← HOK2.out]; exact h)
              go_wp2_with fail
              refine (l10Markov_is gV 0 m cV es3 acc v HVD.out _ slV R3.rcs R3.map HM.out (by omega) HSUM.out).mono ?_
              rintro e w6 ⟨rfl, rfl⟩
              rw [HM.out] at R3
              go_wp2_with fail
              go_ret2
              exact ⟨_, es3, acc, endsB (by rw [HOK2.out]), R3, HXE.out, B3⟩
            have hmk := fun W => run_make_row' (P := Try.prog) 25 2 (Value.int .i64 0) 8 Try.underlying25 infoInt64S rfl .i64 .i64 l (by omega) (by omega) W
            obtain ⟨wx, HWX, BX, OX⟩ : ∃ wx, Hid (wx = wo3.alloc (.cells (madeCells #[Value.int .i64 0] l) 2)) ∧ Below wo3.heap.size wo3 wx ∧ wx.ownsRow wo3.heap.size 2 1 (.slice (some ⟨wo3.heap.size, 0, none⟩) l l) l ((List.replicate l (0 : Int)).map (Value.int .i64)) :=
              ⟨_, rfl, laid_below _ _, own_of_rowIs (World.rowIs_made wo3 (Value.int .i64 0) l 2) (Nat.le_refl _) (by unfold maxLen; omega) (by simp) (fun j u hu => by rw [List.map_replicate, List.getElem?_replicate] at hu; split at hu; (injection hu); cases hu)⟩
            have sx : wx.heap.size = wo3.heap.size + 1 := by rw [HWX.out]; simp
            have RX := R3.below BX
            have BWX := below_step B3 BX
            obtain ⟨A, c, rfl⟩ := own_form R3.acc.own
            obtain ⟨m0, hm0⟩ : ∃ m, es3.length = m := ⟨_, rfl⟩
            have hm60 : m0 ≤ 64 := by rw [← hm0, R3.len]; have := HLEN.out; omega
            rw [hm0]
            have HM0 := Lib.hid hm0
            clear hm0
            have ld := cell_step (by exact T0.out) B3
            rcases Bool.eq_false_or_eq_true (decide ((q : Int) ∈ hs)) with hmem | hmem
            · have HM := Lib.hid hmem
              have HREL2 : Hid (MkRel acc (xs0 ++ rC j l hs (q + 1))) := by
                have e1 : rulesCi j l hs (q : Int) = [] := by unfold rulesCi; rw [if_pos (by simpa using hmem)]
                unfold Hid; rw [rC_succ, e1, List.append_nil]; exact HREL.out
              clear hmem
              go_wp2_with fail
              rw [← HWX.out]
              clear hmk
              go_loopw [4] (fun V wr => V = .slice A m0 c ∧ wr = wx) (fun _ _ => 0)
              case atStart => exact ⟨rfl, rfl⟩
              case round =>
                obtain ⟨rfl, rfl⟩ := hrel
                have lh := cell_step (by exact T2.out) BWX
                have hah : Arg wr (some ⟨bh, oh, none⟩) nh (hs.map (.int .i64)) := Arg.of_sl (sh.below' BWX) (by have := HLH.out; simpa using this)
                go_wp2_with fail
                refine (l00Has_is _ nh ch hs (q : Int) true HM.out _ hah hnh).mono ?_
                rintro e w' ⟨rfl, rfl⟩
                rw [HM0.out] at RX
                go_wp2_with fail
                go_roundw
                case rel => exact ⟨q + 1, es3, acc, by omega, by go_num, RX, BWX, HREL2, by have := HLEN.out; unfold Hid; omega, HSH, HP⟩
                case measure => simp [intOf]; omega
            have HM := Lib.hid hmem
            have HCI : Hid (rulesCi j l hs (q : Int) = (wordsN j l).map (ruleC j q)) := by unfold Hid rulesCi; rw [if_neg (by simpa using hmem)]
            clear hmem
            have hch := chain_words j (by omega) l
            rw [wordsC_eq] at hch
            have HCH := Lib.hid hch; clear hch
            have wl : IntKind.i64.wrap ((l : Int) - 1) = (l : Int) - 1 := IntWalk.i64_in _ (by omega)
            have wj : IntKind.i64.wrap ((j : Int) - 1) = (j : Int) - 1 := IntWalk.i64_in _ (by omega)
            have wjq : IntKind.i64.wrap ((j : Int) + (q : Int)) = (j : Int) + (q : Int) := IntWalk.i64_in _ (by omega)
            have AP := ApartMk.of_row R3 (Nat.le_refl _)
            rw [HM0.out] at RX
            go_wp2_with fail
            rw [← HWX.out]
            clear hmk
            obtain ⟨gx, hgx⟩ : ∃ gx, wo3.heap.size = gx := ⟨_, rfl⟩
            rw [hgx] at OX AP sx ⊢
            have hgw : w.heap.size ≤ gx := by rw [← hgx]; exact B3.size
            clear hgx ld
            go_loopw [4] (fun V wr => ∃ (es : List EMarkovRule) (done rest : List (List Int)) (cur : List Int), MkRow w.heap.size V es (acc ++ done.map (ruleC j q)) wr ∧ Below w.heap.size w wr ∧ wr.ownsRow gx 2 1 (.slice (some ⟨gx, 0, none⟩) l l) l (cur.map (Value.int .i64)) ∧ gx < wr.heap.size ∧ ApartMk gx es ∧ Hid (done ++ rest = wordsN j l) ∧ Hid (ChainW j cur rest) ∧ Hid (acc.length + done.length ≤ 60 + q)) (fun V _ => 100 - lenV V)
            case atStart => exact ⟨es3, [], wordsN j l, List.replicate l 0, by simpa using RX, BWX, OX, by omega, AP, rfl, HCH.out, by have := HLEN.out; simpa [Hid] using this⟩
            case round =>
              obtain ⟨es5, done, rest, cur, R5, B5, O5, hgx5, AP5, HDN, HCC, HL5⟩ := hrel
              clear RX BWX OX AP R3 B3 HWX BX sx
              obtain ⟨wo5, rfl⟩ : ∃ wo5, wo5 = wr := ⟨_, rfl⟩
              have lh := cell_step (by exact T2.out) B5
              have hah : Arg wo5 (some ⟨bh, oh, none⟩) nh (hs.map (.int .i64)) := Arg.of_sl (sh.below' B5) (by have := HLH.out; simpa using this)
              obtain ⟨A5, c5, rfl⟩ := own_form R5.acc.own
              obtain ⟨m, hm⟩ : ∃ m, es5.length = m := ⟨_, rfl⟩
              have hml : m = acc.length + done.length := by rw [← hm, R5.len, List.length_append, List.length_map]
              have hm64 : m ≤ 64 := by have := HL5.out; omega
              rw [hm]
              have HMM := Lib.hid hm
              have HML := Lib.hid hml
              have own0 := R5.acc.own
              rw [hm] at own0
              clear hm hml
              have hcl : cur.length = l := by have := O5.1; simpa using this
              have HCL := Lib.hid hcl; clear hcl
              obtain ⟨wa, HWA, BA, xa⟩ := al1 wo5 (.cells #[.int .i64 (2 * (j : Int)), .int .i64 q] 2)
              have owna : wa.ownsRow wo5.heap.size 2 1 (.slice (some ⟨wo5.heap.size, 0, none⟩) 2 2) 2 ([2 * (j : Int), (q : Int)].map (Value.int .i64)) := by
                rw [HWA.out]; exact own_laid wo5 2 1 2 #[.int .i64 (2 * (j : Int)), .int .i64 q] rfl (by unfold maxLen; omega)
              have O5a := own_below' O5 BA
              have srca := Src.of_own O5a
              have B5a := below_step B5 BA
              clear xa
              go_wp2_with fail
              refine (l00Has_is _ nh ch hs (q : Int) false HM.out _ hah hnh).mono ?_
              rintro e w' ⟨rfl, hw'⟩
              subst hw'
              clear lh hah
              go_wp2_with (first
                | (at_builtin; rw [← HWA.out]; refine wpList_appx rfl _ _ _ rfl Try.underlying25 infoInt64S rfl (by omega) wo5.heap.size owna BA.size rfl srca rfl (one_ints _ _) (by unfold maxLen; omega) (by omega) ?_; intro vb wb ownb hgb hnilb; obtain ⟨Ab, cb, rfl⟩ := own_form ownb; have Bb := grown_below BA owna (Nat.le_refl _) hgb; have q0 : Wd wo5.heap.size (.slice Ab (2 + l) cb) ([2 * (j : Int), (q : Int)] ++ cur) wb := (Wd.of_own (n := 2 + l) (by rw [List.map_append]; exact ownb) (by intro h; injection h with _ h2 _; omega)); clear owna srca hgb hnilb ownb BA; obtain ⟨wc, HWC, BC, xc⟩ := al1 wb (.cells #[.int .i64 (2 * (j : Int)), .int .i64 ((j : Int) + (q : Int))] 2); have szc : wc.heap.size = wb.heap.size + 1 := (by rw [HWC.out]; simp); have q1 : Wd wb.heap.size (.slice (some ⟨wb.heap.size, 0, none⟩) 2 2) [2 * (j : Int), (j : Int) + (q : Int)] wc := (by rw [HWC.out]; exact Wd.laid wb [2 * (j : Int), (j : Int) + (q : Int)] _ rfl (by simp)); obtain ⟨wd', HWD, BD, xd⟩ := al1 wc (.cells #[.slice Ab (2 + l) cb, .slice (some ⟨wb.heap.size, 0, none⟩) 2 2, .bool false] 117); have slc : Src 3 wd' (.slice (some ⟨wb.heap.size + 1, 0, none⟩) 1 1) 1 [.slice Ab (2 + l) cb, .slice (some ⟨wb.heap.size, 0, none⟩) 2 2, .bool false] := (by rw [← szc]; exact Src.of_sl ⟨heap_lt xd, fun q v hq => by rw [cell_of_heap xd]; simpa using hq⟩ rfl); have Bad := below_step (below_step Bb BC) BD; have ownd := own_below' own0 Bad; have O5d := own_below' O5 Bad; have hszd := Nat.le_trans B5.size Bad.size; have BWD := below_step B5 Bad; clear xc xd)
                | (at_builtin; rw [← HWC.out, ← HWD.out]; refine wpList_appx rfl _ _ _ rfl Try.underlying58 infoMarkovRule rfl (by omega) w.heap.size ownd hszd rfl slc rfl (one_all rfl) (by unfold maxLen; omega) (by omega) ?_; intro V4 w4 own4 hg4 hnil4; clear hnil4; have BG := grown_below BWD ownd (Nat.le_refl _) hg4; have O54 := O5d.kept hg4 (own_apart_ty O5d ownd (by decide)); obtain ⟨A4, c4, rfl⟩ := own_form own4))
              have R6 : MkRow w.heap.size (.slice A4 (m + 1) c4) (es5 ++ [⟨⟨[2 * (j : Int), (q : Int)] ++ cur, [2 * (j : Int), (j : Int) + (q : Int)], false⟩, .slice Ab (2 + l) cb, .slice (some ⟨wb.heap.size, 0, none⟩) 2 2⟩]) (acc ++ (done ++ [cur]).map (ruleC j q)) w4 := by
                have h1 := R5.push B5.size Bb q0 BC q1 BD (by rw [HMM.out]; exact hg4) (f2 := false) (by rw [HMM.out]; exact own4)
                rw [List.map_append, ← List.append_assoc]; exact h1
              have AP6 := ApartMk.push (e := ⟨⟨[2 * (j : Int), (q : Int)] ++ cur, [2 * (j : Int), (j : Int) + (q : Int)], false⟩, .slice Ab (2 + l) cb, .slice (some ⟨wb.heap.size, 0, none⟩) 2 2⟩) AP5 q0 q1 hgx5 (Nat.lt_of_lt_of_le hgx5 Bb.size)
              have hgx6 : gx < w4.heap.size := Nat.lt_of_lt_of_le hgx5 (Nat.le_trans Bad.size hg4.size)
              obtain ⟨es6, HES6⟩ : ∃ es6 : List EMarkovRule, Hid (es6 = es5 ++ [(⟨⟨[2 * (j : Int), (q : Int)] ++ cur, [2 * (j : Int), (j : Int) + (q : Int)], false⟩, .slice Ab (2 + l) cb, .slice (some ⟨wb.heap.size, 0, none⟩) 2 2⟩ : EMarkovRule)]) := ⟨_, rfl⟩
              rw [← HES6.out] at R6 AP6
              clear R5 AP5 O5 q0 q1 Bb BC BD slc Bad ownd O5d hszd BWD own4 hg4 own0 O5a B5a
              have HCUR : Hid (∀ a ∈ cur, 0 ≤ a ∧ a < (j : Int)) := by
                obtain ⟨t, ht⟩ := HCC.out.head
                have hmem : cur ∈ wordsN j l := by rw [← HDN.out, ht]; simp
                exact wordsN_in hmem
              go_loopw [13] (fun v wr => ∃ kk : Nat, kk ≤ l ∧ v = .int .i64 ((kk : Int) - 1) ∧ MkRow w.heap.size (.slice A4 (m + 1) c4) es6 (acc ++ (done ++ [cur]).map (ruleC j q)) wr ∧ Below w.heap.size w wr ∧ wr.ownsRow gx 2 1 (.slice (some ⟨gx, 0, none⟩) l l) l ((zeroed cur kk).map (Value.int .i64)) ∧ gx < wr.heap.size ∧ Hid (∀ b ∈ cur.drop kk, b = (j : Int) - 1)) (fun v _ => (intOf v + 1).toNat)
              case atStart => exact ⟨l, Nat.le_refl _, rfl, R6, BG, by rw [← HCL.out, zeroed_all, HCL.out]; exact O54, hgx6, by unfold Hid; rw [← HCL.out, List.drop_length]; intro b hb; cases hb⟩
              case round =>
                obtain ⟨kk, hkk, rfl, R7, B7, O7, hgx7, HALL⟩ := hrel
                clear R6 BG O54 hgx6
                obtain ⟨wo7, rfl⟩ : ∃ wo7, wo7 = wr := ⟨_, rfl⟩
                rcases Nat.eq_zero_or_pos kk with h0 | h0
                · subst h0
                  have e0 : ((0 : Nat) : Int) - 1 = -1 := rfl
                  rw [e0]
                  have HNX : Hid (nextW j cur = none) := nextW_all (by have := HALL.out; rwa [List.drop_zero] at this)
                  have hrest := HCC.out.none HNX.out
                  have HW : Hid (done ++ [cur] = wordsN j l) := by rw [← hrest]; exact HDN.out
                  rw [HW.out] at R7
                  have HREL2 : Hid (MkRel (acc ++ (wordsN j l).map (ruleC j q)) (xs0 ++ rC j l hs (q + 1))) := by
                    unfold Hid; rw [rC_succ, HCI.out, ← List.append_assoc]; exact HREL.out.app _
                  have HLEN2 : Hid ((acc ++ (wordsN j l).map (ruleC j q)).length ≤ 60 + (q + 1)) := by
                    have h1 := HL5.out
                    unfold Hid; rw [← HW.out, List.length_append, List.length_map, List.length_append, List.length_singleton]; omega
                  have HSH2 : Hid (Short (acc ++ (wordsN j l).map (ruleC j q))) := HSH.out.app (short_map fun x hx => short_C j q x (by rw [wordsN_mem hx]; omega))
                  have HP2 : Hid (0 < (acc ++ (wordsN j l).map (ruleC j q)).length) := by have := HP.out; unfold Hid; rw [List.length_append]; omega
                  clear hrest e0
                  go_wp2_with fail
                  go_roundw
                  case rel => exact ⟨q + 1, es6, _, by omega, by go_num, R7, B7, HREL2, HLEN2, HSH2, HP2⟩
                  case measure => simp [intOf]; omega
                obtain ⟨p, rfl⟩ : ∃ p, kk = p + 1 := ⟨kk - 1, by omega⟩
                have e0 : ((p + 1 : Nat) : Int) - 1 = (p : Int) := by omega
                rw [e0]
                clear h0 e0
                have hplt : p < cur.length := by have := HCL.out; omega
                obtain ⟨a, ha⟩ : ∃ a, cur[p]? = some a := ⟨_, List.getElem?_eq_getElem hplt⟩
                have HAT := Lib.hid ha; clear ha
                have hca : wo7.cell? ⟨gx, p, none⟩ = some (.int .i64 a) := by
                  rw [O7.cellAt p (by omega), List.getElem?_map, zeroed_at (by omega), HAT.out]; rfl
                have hfa := O7.frozenAt p
                have hp0 : (0 : Int) ≤ (p : Int) := by omega
                have hp1 : (p : Int) < (l : Int) := by omega
                have haj := HCUR.out a (List.mem_of_getElem? HAT.out)
                have HAJ := Lib.hid haj; clear haj
                have wp1 : IntKind.i64.wrap ((p : Int) - 1) = (p : Int) - 1 := IntWalk.i64_in _ (by omega)
                by_cases hea : a = (j : Int) - 1
                · have e1 : (a == (j : Int) - 1) = true := by simpa using hea
                  have HE := Lib.hid hea; clear hea
                  have hst := O7.stored p (.int .i64 0)
                  have O8 : (wo7.setCell ⟨gx, p, none⟩ (.int .i64 0)).ownsRow gx 2 1 (.slice (some ⟨gx, 0, none⟩) l l) l ((zeroed cur p).map (Value.int .i64)) := by
                    have := hst.1
                    rw [← zeroed_set hplt, List.map_set]; exact this
                  obtain ⟨xcs, hxcs⟩ := own_heap O7
                  have R8 := R7.setword (i := p) hxcs AP6 (.int .i64 0)
                  have B8 := B7.setCell (p := ⟨gx, p, none⟩) hgw (.int .i64 0)
                  have hgx8 : gx < (wo7.setCell ⟨gx, p, none⟩ (.int .i64 0)).heap.size := by simpa [World.setCell] using hgx7
                  have HALL8 : Hid (∀ b ∈ cur.drop p, b = (j : Int) - 1) := by
                    intro b hb
                    rw [drop_at HAT.out] at hb
                    rcases List.mem_cons.1 hb with rfl | hb
                    · exact HE.out
                    · exact HALL.out b hb
                  clear hst hxcs R7 B7 O7
                  go_wp2_with fail
                  go_roundw
                  case rel => exact ⟨p, by omega, by go_num, R8, B8, O8, hgx8, HALL8⟩
                  case measure => first | (simp [intOf]; done) | (simp [intOf]; omega)
                · have e1 : (a == (j : Int) - 1) = false := by simpa using hea
                  have hnext := zeroed_next (n := j) HAT.out hea HALL.out
                  obtain ⟨t, ht, hct⟩ := HCC.out.some hnext
                  have HT := Lib.hid ht; have HCT := Lib.hid hct
                  clear hea hnext ht hct
                  have HW : Hid ((done ++ [cur]) ++ t = wordsN j l) := by unfold Hid; rw [List.append_assoc, ← HDN.out, HT.out]; rfl
                  by_cases h60 : 60 < m + 1
                  · have hlen : (acc ++ (done ++ [cur]).map (ruleC j q)).length = m + 1 := by
                      have := HML.out; rw [List.length_append, List.length_map, List.length_append, List.length_singleton]; omega
                    have HREL2 : Hid (MkRel (acc ++ (done ++ [cur]).map (ruleC j q)) (xs0 ++ rC j l hs (q + 1))) := by
                      have em : (wordsN j l).map (ruleC j q) = (done ++ [cur]).map (ruleC j q) ++ t.map (ruleC j q) := by rw [← HW.out, List.map_append]
                      unfold Hid
                      rw [rC_succ, HCI.out, em, ← List.append_assoc xs0, ← List.append_assoc (xs0 ++ rC j l hs q)]
                      exact (HREL.out.app _).cut (by rw [hlen]; exact h60) _
                    have HLEN2 : Hid ((acc ++ (done ++ [cur]).map (ruleC j q)).length ≤ 60 + (q + 1)) := by
                      have h1 := HL5.out; have h2 := HML.out
                      unfold Hid; rw [hlen]; omega
                    have HSH2 : Hid (Short (acc ++ (done ++ [cur]).map (ruleC j q))) := HSH.out.app (short_map fun x hx => short_C j q x (by
                      have : x ∈ wordsN j l := by rw [← HW.out]; exact List.mem_append_left _ hx
                      rw [wordsN_mem this]; omega))
                    have HP2 : Hid (0 < (acc ++ (done ++ [cur]).map (ruleC j q)).length) := by unfold Hid; rw [hlen]; omega
                    have h60i : (60 : Int) < ((m + 1 : Nat) : Int) := by omega
                    clear hlen
                    go_wp2_with fail
                    go_roundw
                    case rel => exact ⟨q + 1, es6, _, by omega, by go_num, R7, B7, HREL2, HLEN2, HSH2, HP2⟩
                    case measure => simp [intOf]; omega
                  · have hst := O7.stored p (.int .i64 (a + 1))
                    have wa1 : IntKind.i64.wrap (a + 1) = a + 1 := IntWalk.i64_in _ (by have := HAJ.out; omega)
                    have O8 : (wo7.setCell ⟨gx, p, none⟩ (.int .i64 (a + 1))).ownsRow gx 2 1 (.slice (some ⟨gx, 0, none⟩) l l) l (((zeroed cur (p + 1)).set p (a + 1)).map (Value.int .i64)) := by
                      have := hst.1
                      rw [List.map_set]; exact this
                    obtain ⟨xcs, hxcs⟩ := own_heap O7
                    have R8 := R7.setword (i := p) hxcs AP6 (.int .i64 (a + 1))
                    have B8 := B7.setCell (p := ⟨gx, p, none⟩) hgw (.int .i64 (a + 1))
                    have hgx8 : gx < (wo7.setCell ⟨gx, p, none⟩ (.int .i64 (a + 1))).heap.size := by simpa [World.setCell] using hgx7
                    have HL8 : Hid (acc.length + (done ++ [cur]).length ≤ 60 + q) := by
                      have h2 := HML.out; unfold Hid; rw [List.length_append, List.length_singleton]; omega
                    have h60i : ¬ (60 : Int) < ((m + 1 : Nat) : Int) := by omega
                    clear hst hxcs R7 B7 O7
                    go_wp2_with fail
                    go_roundw
                    case rel => exact ⟨es6, done ++ [cur], t, _, R8, B8, O8, hgx8, AP6, HW, HCT, HL8⟩
                    case measure => simp [lenV]; omega
end Go.Proofs.Ytcfkjigapnknnaa
