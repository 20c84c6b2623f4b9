/- TagToMarkov of the program. -/
import Derived.Test.YtcfkjigapnknnaaTagAdd
namespace Go.Proofs.Ytcfkjigapnknnaa
open Go.RowKit
set_option linter.all false

/-- TagToMarkov's answer at a valid tag system. -/
def tmk (d : Int) (ws : List (List Int)) (hs : List Int) : List DMarkovRule × Int := if tagOk d ws hs then (tagRules d ws hs, 0) else ([], 5)
theorem tmk_yes {d : Int} {ws : List (List Int)} {hs : List Int} (h : tagOk d ws hs = true) : tmk d ws hs = (tagRules d ws hs, 0) := by unfold tmk; rw [if_pos h]
theorem tmk_no {d : Int} {ws : List (List Int)} {hs : List Int} (h : tagOk d ws hs = false) : tmk d ws hs = ([], 5) := by unfold tmk; rw [h]; rfl
theorem MkRow.nilv (lo : Nat) (w : World) : MkRow lo (.slice none 0 0) [] [] w := ⟨⟨World.ownsRow_nil _ _ _ _, Inn.nil _ _ _ _ _⟩, (fun e h => by cases h), rfl⟩
theorem MkRow.base {lo lo' : Nat} {V : Value} {es : List EMarkovRule} {xs : List DMarkovRule} {W : World} (h : MkRow lo V es xs W) (hl : lo' ≤ lo) : MkRow lo' V es xs W :=
  ⟨⟨own_base h.acc.own hl, h.acc.inn.len, fun j v it h1 h2 => own_base (h.acc.inn.own j v it h1 h2) hl, h.acc.inn.top, h.acc.inn.apart⟩, h.adr, h.map⟩
theorem MkRow.addr {lo : Nat} {V : Value} {es : List EMarkovRule} {xs : List DMarkovRule} {W : World} (h : MkRow lo V es xs W) (hx : 0 < xs.length) : ∃ g c, V = .slice (some ⟨g, 0, none⟩) xs.length c ∧ xs.length ≤ c ∧ Sl W g 0 (rows EMarkovRule.vs es) := by
  have ho := h.acc.own
  rw [h.len] at ho
  rcases own_cases ho with ⟨h0, h1⟩ | ⟨g, c, e, hc⟩
  · omega
  · subst e; exact ⟨g, c, rfl, hc, sl_of_own ho⟩
theorem word_adr {w : World} {us : List Value} {ws : List (List Int)} (sr : Srcs 1 oneI w us ws) (au : AdrW us) {k : Nat} {x : List Int} (hx : ws[k]? = some x) : ∃ g, us[k]? = some (.slice (some ⟨g, 0, none⟩) x.length x.length) ∧ Sl w g 0 (x.map (Value.int .i64)) := by
  have hk := (List.getElem?_eq_some_iff.1 hx).1
  have hu : us[k]? = some (us[k]'(by rw [sr.1]; exact hk)) := List.getElem?_eq_getElem _
  obtain ⟨g, m, e⟩ := au _ (List.mem_of_getElem? hu)
  have h1 := sr.2 k _ x hu hx
  rw [e] at h1 hu
  rw [rows_oneI] at h1
  rcases h1.2 with ⟨h2, _⟩ | ⟨b, off, c, h2, h3⟩
  · cases h2
  · injection h2 with a1 a2 a3
    injection a1 with a1
    injection a1 with a4 a5
    subst a4; subst a5; subst a2
    obtain ⟨A, c', h4⟩ := Src.form h1
    exact ⟨g, hu, h3⟩

set_option maxRecDepth 100000 in
set_option maxHeartbeats 4000000 in
theorem implTagMk_any (d : Int) (bw ow nw cw : Nat) (us : List Value) (ws : List (List Int)) (bh oh nh ch : Nat) (hs : List Int) (w : World) (hv : validTag d ws hs = true)
    (sw : Sl w bw ow us) (sr : Srcs 1 oneI w us ws) (lw : ws.length = nw) (hnw : nw ≤ 1048576) (hsum : sumLen ws ≤ 1048576) (au : AdrW us) (sh : Sl w bh oh (hs.map (.int .i64))) (lh : hs.length = nh) (hnh : nh ≤ 1048576) :
    Calls Try.prog 72 #[.agg #[.int .i64 d, .slice (some ⟨bw, ow, none⟩) nw cw, .slice (some ⟨bh, oh, none⟩) nh ch]] w fun e w' => ∃ V es, e = .returned (.tuple #[V, .int .i64 (tmk d ws hs).2]) ∧ MkRow w.heap.size V es (tmk d ws hs).1 w' ∧ Below w.heap.size w w' := by
  obtain ⟨hd1, hd4, hn1, -, -, hws⟩ := validTag_parts hv
  rw [lw] at hn1
  have HWS : Hid (∀ x ∈ ws, x.length ≤ 1000) := fun x hx => (hws x hx).1
  have HLW := Lib.hid lw
  have HLH := Lib.hid lh
  have HAU := Lib.hid au
  clear hv hws hsum lh au
  obtain ⟨w1, HW1, B1, x1⟩ := al1 w (.cells #[.int .i64 d, .slice (some ⟨bw, ow, none⟩) nw cw, .slice (some ⟨bh, oh, none⟩) nh ch] 61)
  obtain ⟨box, HBX⟩ : ∃ box : Array Value, Hid (box = #[.int .i64 d, .slice (some ⟨bw, ow, none⟩) nw cw, .slice (some ⟨bh, oh, none⟩) nh ch]) := ⟨_, rfl⟩
  have l0 : w1.cell? ⟨w.heap.size, 0, none⟩ = some (.int .i64 d) := by rw [cell_of_heap x1]; rfl
  have l1 : w1.cell? ⟨w.heap.size, 1, none⟩ = some (.slice (some ⟨bw, ow, none⟩) nw cw) := by rw [cell_of_heap x1]; rfl
  have l2 : w1.cell? ⟨w.heap.size, 2, none⟩ = some (.slice (some ⟨bh, oh, none⟩) nh ch) := by rw [cell_of_heap x1]; rfl
  have HX1 := Lib.hid x1; clear x1
  by_cases hf : 2 * nw ≤ 9
  rotate_left
  · have HF : Hid (tmk d ws hs = ([], 5)) := tmk_no (by unfold tagOk; rw [lw, decide_eq_false (by omega)]; rfl)
    clear lw
    go_enter Try.func72, Try.ntmps72
    go_wp2_with fail
    rw [← HW1.out]
    refine (tagFront_no d _ nw cw _ _ (by omega) hnw).mono ?_
    rintro e w2 ⟨rfl, b2⟩
    go_wp2_with fail
    go_ret2
    exact ⟨_, [], ends2 (by rw [HF.out]), by rw [HF.out]; exact MkRow.nilv _ _, below_step B1 b2⟩
  have HEQ : Hid (tagRules d ws hs = rA nw nw ++ rB nw ws nw ++ rC nw (d - 1).toNat hs nw) := by unfold Hid; rw [tagRules_eq, lw]
  have HOK : Hid (tagOk d ws hs = validMks (tagRules d ws hs)) := by unfold Hid tagOk; rw [lw, decide_eq_true hf, Bool.true_and]
  obtain ⟨l, hl⟩ : ∃ l : Nat, d - 1 = (l : Int) := ⟨(d - 1).toNat, by omega⟩
  have wd : IntKind.i64.wrap (d - 1) = (l : Int) := by rw [IntWalk.i64_in _ (by omega)]; exact hl
  have hl3 : l ≤ 3 := by omega
  have HDL : Hid ((d - 1).toNat = l) := by unfold Hid; omega
  rw [HDL.out] at HEQ
  clear lw hl
  have hE := fun args W => enters_of' Try.func130 rfl rfl args W
  go_enter Try.func72, Try.ntmps72
  go_wp2_with fail
  rw [← HW1.out]
  refine (tagFront_yes d _ nw cw _ _ hf).mono ?_
  rintro e w2 ⟨rfl, b2⟩
  have B2 := below_step B1 b2
  obtain ⟨w3, HW3, BB, xa, xb⟩ := al2 w2 (.cells #[] 117) (.cells #[.slice (some ⟨w2.heap.size, 0, none⟩) 0 0] 58)
  have hsz2 := B2.size
  have T3 : TSt w.heap.size box w2.heap.size (w2.heap.size + 1) (.slice (some ⟨w2.heap.size, 0, none⟩) 0 0) [] [] w w3 := by
    refine ⟨?_, xb, ?_, below_step B2 BB, hsz2, BB.size, by omega⟩
    · have := (MkRow.nil w2).below (laid_below _ (.cells #[.slice (some ⟨w2.heap.size, 0, none⟩) 0 0] 58))
      rw [HW3.out]; exact this
    · rw [HBX.out]
      exact ((below_step b2 BB).block _ (heap_lt HX1.out)).trans HX1.out
  clear b2 xa xb l0 l1 l2
  go_wp2_with fail
  rw [← HW3.out]
  go_loopw [27] (fun i wr => ∃ (k : Nat) (V : Value) (es : List EMarkovRule), k ≤ nw ∧ i = .int .i64 k ∧ TSt w.heap.size box w2.heap.size (w2.heap.size + 1) V es (rA nw k) w wr) (fun i _ => nw - (intOf i).toNat)
  case atStart => exact ⟨0, _, _, Nat.zero_le _, rfl, T3⟩
  case round =>
    obtain ⟨k, V, es, hk, rfl, T⟩ := hrel
    clear T3 HW3 BB
    obtain ⟨wo, rfl⟩ : ∃ wo, wo = wr := ⟨_, rfl⟩
    by_cases hlt : k < nw
    · go_wp2_with fail
      go_loopw [31] (fun i wr => ∃ (j : Nat) (V : Value) (es : List EMarkovRule), j ≤ nw ∧ i = .int .i64 j ∧ TSt w.heap.size box w2.heap.size (w2.heap.size + 1) V es (rA2 nw k j) w wr) (fun i _ => nw - (intOf i).toNat)
      case atStart => exact ⟨0, V, es, Nat.zero_le _, rfl, by rw [rA2_zero]; exact T⟩
      case round =>
        obtain ⟨j, V2, es2, hj, rfl, T2⟩ := hrel
        clear T
        by_cases hjlt : j < nw
        rotate_left
        · obtain rfl : j = nw := by omega
          rw [← rA_succ] at T2
          go_wp2_with fail
          go_roundw
          case rel => exact ⟨k + 1, V2, es2, by omega, by go_num, T2⟩
          case measure => simp [intOf]; omega
        have w1' : IntKind.i64.wrap ((nw : Int) + (k : Int)) = (nw : Int) + (k : Int) := IntWalk.i64_in _ (by omega)
        obtain ⟨wa, HWA, BA, xa⟩ := al1 wr (.cells #[.int .i64 ((nw : Int) + (k : Int)), .int .i64 j] 2)
        obtain ⟨wb, HWB, BB, xb⟩ := al1 wa (.cells #[.int .i64 j, .int .i64 ((nw : Int) + (k : Int))] 2)
        have sza : wa.heap.size = wr.heap.size + 1 := by rw [HWA.out]; simp
        have q0 : Wd wr.heap.size (.slice (some ⟨wr.heap.size, 0, none⟩) 2 2) [(nw : Int) + (k : Int), (j : Int)] wa := by rw [HWA.out]; exact Wd.laid wr [(nw : Int) + (k : Int), (j : Int)] _ rfl (by simp)
        have q1 : Wd wa.heap.size (.slice (some ⟨wr.heap.size + 1, 0, none⟩) 2 2) [(j : Int), (nw : Int) + (k : Int)] wb := by rw [HWB.out, ← sza]; exact Wd.laid wa [(j : Int), (nw : Int) + (k : Int)] _ rfl (by simp)
        have hlen : (rA2 nw k j).length ≤ 1000 := by rw [rA2_len]; have : k * nw ≤ 4 * 4 := Nat.mul_le_mul (by omega) (by omega); omega
        have HLEN := Lib.hid hlen
        clear xa xb sza hlen
        go_wp2_with fail
        rw [← HWA.out, ← HWB.out]
        refine (tagAdd_any _ _ _ _ _ _ _ _ _ _ _ _ _ _ _ T2 BA q0 BB q1 HLEN.out).mono ?_
        rintro e w5 ⟨rfl, ⟨V5, es5, T5⟩, -⟩
        have T6 : TSt w.heap.size box w2.heap.size (w2.heap.size + 1) V5 es5 (rA2 nw k (j + 1)) w w5 := by rw [rA2_succ]; exact T5
        clear T2 q0 q1 BA BB T5
        go_wp2_with fail
        go_roundw
        case rel => exact ⟨j + 1, V5, es5, by omega, by go_num, T6⟩
        case measure => simp [intOf]; omega
    · obtain rfl : k = nw := by omega
      go_wp2_with fail
      go_loopw [49] (fun i wr => ∃ (j : Nat) (V : Value) (es : List EMarkovRule), j ≤ k ∧ i = .int .i64 j ∧ TSt w.heap.size box w2.heap.size (w2.heap.size + 1) V es (rA k k ++ rB k ws j) w wr) (fun i _ => k - (intOf i).toNat)
      case atStart => exact ⟨0, V, es, Nat.zero_le _, rfl, by rw [rB_zero, List.append_nil]; exact T⟩
      case round =>
        obtain ⟨j, V2, es2, hj, rfl, T2⟩ := hrel
        clear T
        obtain ⟨wo2, rfl⟩ : ∃ wo2, wo2 = wr := ⟨_, rfl⟩
        by_cases hjlt : j < k
        · obtain ⟨x, HX⟩ := hget HLW hjlt
          have w1' : IntKind.i64.wrap ((k : Int) + (j : Int)) = (k : Int) + (j : Int) := IntWalk.i64_in _ (by omega)
          obtain ⟨wa, HWA, BA, xa⟩ := al1 wo2 (.cells #[.int .i64 ((k : Int) + (j : Int))] 2)
          have q0 : Wd wo2.heap.size (.slice (some ⟨wo2.heap.size, 0, none⟩) 1 1) [(k : Int) + (j : Int)] wa := by rw [HWA.out]; exact Wd.laid wo2 [(k : Int) + (j : Int)] _ rfl (by simp)
          have Ta := T2.below BA
          obtain ⟨g, hu, hsx⟩ := word_adr (sr.below Ta.frame) HAU.out HX.out
          have hxl : x.length ≤ 1000 := HWS.out x (List.mem_of_getElem? HX.out)
          obtain ⟨m, hm⟩ : ∃ m, x.length = m := ⟨_, rfl⟩
          rw [hm] at hu hxl
          have HM := Lib.hid hm
          have l1 : wa.cell? ⟨w.heap.size, 1, none⟩ = some (.slice (some ⟨bw, ow, none⟩) k cw) := by rw [cell_of_heap Ta.box, HBX.out]; rfl
          have lu := (sw.below' Ta.frame).at hu
          have hlen : (rA k k ++ rB k ws j).length ≤ 1000 := by rw [List.length_append, rA_len, rB_len _ _ _ (by have := HLW.out; omega)]; have : k * k ≤ 4 * 4 := Nat.mul_le_mul (by omega) (by omega); omega
          have HLEN := Lib.hid hlen
          rw [HWA.out] at l1 lu
          clear xa hlen hm hu Ta
          go_wp2_with fail
          rw [← HWA.out]
          refine (cloneA_any g 0 m m x _ hsx HM.out (by omega)).mono ?_
          rintro e wb ⟨g2, d2, rfl, own2, BB, hd2⟩
          have q1 := Wd.of_own own2 (by intro h; cases h)
          clear own2 l1 lu hsx hd2
          go_wp2_with fail
          refine (tagAdd_any _ _ _ _ _ _ _ _ _ _ _ _ _ _ _ T2 BA q0 BB q1 HLEN.out).mono ?_
          rintro e w5 ⟨rfl, ⟨V5, es5, T5⟩, -⟩
          have T6 : TSt w.heap.size box w2.heap.size (w2.heap.size + 1) V5 es5 (rA k k ++ rB k ws (j + 1)) w w5 := by rw [rB_succ HX.out, ← List.append_assoc]; exact T5
          clear T2 q0 q1 BA BB T5
          go_wp2_with fail
          go_roundw
          case rel => exact ⟨j + 1, V5, es5, by omega, by go_num, T6⟩
          case measure => simp [intOf]; omega
        · obtain rfl : j = k := by omega
          obtain ⟨xs0, HXS0⟩ : ∃ xs0, Hid (xs0 = rA j j ++ rB j ws j) := ⟨_, rfl⟩
          have HL0 : Hid (xs0.length ≤ 20) := by
            unfold Hid; rw [HXS0.out, List.length_append, rA_len, rB_len _ _ _ (by have := HLW.out; omega)]
            have : j * j ≤ 4 * 4 := Nat.mul_le_mul (by omega) (by omega)
            omega
          rw [← HXS0.out] at T2
          go_wp2_with fail
          go_loopw [66] (fun i wr => ∃ (k : Nat) (V : Value) (es : List EMarkovRule), k ≤ j ∧ i = .int .i64 k ∧ TSt w.heap.size box w2.heap.size (w2.heap.size + 1) V es (xs0 ++ rC j l hs k) w wr) (fun i _ => j - (intOf i).toNat)
          case atStart => exact ⟨0, V2, es2, Nat.zero_le _, rfl, by rw [rC_zero, List.append_nil]; exact T2⟩
          case round =>
            obtain ⟨k, V3, es3, hk3, rfl, T3⟩ := hrel
            clear T2
            obtain ⟨wo3, rfl⟩ : ∃ wo3, wo3 = wr := ⟨_, rfl⟩
            have HLC : Hid ((rC j l hs k).length ≤ 256) := by
              have h1 := rC_len j l hs k
              have h2 := pow_small (n := j) (l := l) (by omega) hl3
              have h3 : k * j ^ l ≤ 4 * 64 := Nat.mul_le_mul (by omega) h2
              unfold Hid; omega
            by_cases hlt3 : k < j
            rotate_left
            · obtain rfl : k = j := by omega
              have hv : Hid (tagRules d ws hs = xs0 ++ rC k l hs k) := by unfold Hid; rw [HEQ.out, HXS0.out]
              have HSH : Hid (sumMarkovRule (xs0 ++ rC k l hs k) ≤ 1048576) := by
                have h1 := short_rC k l hs k (by omega)
                have h2 : Short xs0 := by rw [HXS0.out]; exact (short_rA k k).app (short_rB k ws HWS.out k (by have := HLW.out; omega))
                have h3 := (h2.app h1).sum
                have h4 := HL0.out; have h5 := HLC.out
                rw [List.length_append] at h3
                unfold Hid; omega
              have hx0 : 0 < (xs0 ++ rC k l hs k).length := by
                rw [List.length_append, HXS0.out, List.length_append, rB_len _ _ _ (by have := HLW.out; omega)]; omega
              have HLN : Hid ((xs0 ++ rC k l hs k).length ≤ 300) := by
                have h4 := HL0.out; have h5 := HLC.out
                unfold Hid; rw [List.length_append]; omega
              obtain ⟨gV, cV, rfl, hcV, slV⟩ := T3.row.addr hx0
              obtain ⟨m, hm⟩ : ∃ m, (xs0 ++ rC k l hs k).length = m := ⟨_, rfl⟩
              have HM := Lib.hid hm
              have lv : wo3.cell? ⟨w2.heap.size + 1, 0, none⟩ = some (.slice (some ⟨gV, 0, none⟩) m cV) := by rw [← hm, cell_of_heap T3.var]; rfl
              have hm3 : m ≤ 300 := by rw [← hm]; exact HLN.out
              clear hm hx0
              obtain ⟨v, hvd⟩ : ∃ v, validMks (xs0 ++ rC k l hs k) = v := ⟨_, rfl⟩
              have HVD := Lib.hid hvd; clear hvd
              have HOK2 : Hid (tagOk d ws hs = v) := by unfold Hid; rw [HOK.out, hv.out, HVD.out]
              cases v
              · have HF : Hid (tmk d ws hs = ([], 5)) := tmk_no HOK2.out
                go_wp2_with fail
                refine (implValidMarkov_is gV 0 m cV es3 _ false HVD.out _ slV T3.row.rcs T3.row.map HM.out (by omega) HSH.out).mono ?_
                rintro e w6 ⟨rfl, b6⟩
                have B6 := below_step T3.frame b6
                go_wp2_with fail
                go_ret2
                exact ⟨_, [], ends2 (by rw [HF.out]), by rw [HF.out]; exact MkRow.nilv _ _, B6⟩
              · have HF : Hid (tmk d ws hs = (xs0 ++ rC k l hs k, 0)) := by have := tmk_yes HOK2.out; rw [hv.out] at this; exact this
                go_wp2_with fail
                refine (implValidMarkov_is gV 0 m cV es3 _ true HVD.out _ slV T3.row.rcs T3.row.map HM.out (by omega) HSH.out).mono ?_
                rintro e w6 ⟨rfl, b6⟩
                have B6 := below_step T3.frame b6
                have R6 := (T3.row.below b6).base hsz2
                have lv6 := cell_step (by exact lv) b6
                clear lv slV T3
                rw [HM.out] at R6
                go_wp2_with fail
                go_ret2
                exact ⟨_, es3, ends2 (by rw [HF.out]), by rw [HF.out]; exact R6, B6⟩
            have l2 : wo3.cell? ⟨w.heap.size, 2, none⟩ = some (.slice (some ⟨bh, oh, none⟩) nh ch) := by rw [cell_of_heap T3.box, HBX.out]; rfl
            have l0 : wo3.cell? ⟨w.heap.size, 0, none⟩ = some (.int .i64 d) := by rw [cell_of_heap T3.box, HBX.out]; rfl
            have hah : Arg wo3 (some ⟨bh, oh, none⟩) nh (hs.map (.int .i64)) := Arg.of_sl (sh.below' T3.frame) (by have := HLH.out; simpa using this)
            rcases Bool.eq_false_or_eq_true (decide ((k : Int) ∈ hs)) with hm | hm
            · have HM := Lib.hid hm
              have T4 : TSt w.heap.size box w2.heap.size (w2.heap.size + 1) V3 es3 (xs0 ++ rC j l hs (k + 1)) w wo3 := by
                have e1 : rulesCi j l hs (k : Int) = [] := by unfold rulesCi; rw [if_pos (by simpa using hm)]
                rw [rC_succ, e1, List.append_nil]; exact T3
              clear hm T3
              go_wp2_with fail
              refine (containsI_is _ nh ch hs (k : Int) true HM.out _ hah hnh).mono ?_
              rintro e w' ⟨rfl, rfl⟩
              go_wp2_with fail
              go_roundw
              case rel => exact ⟨k + 1, V3, es3, by omega, by go_num, T4⟩
              case measure => simp [intOf]; omega
            have HM := Lib.hid hm
            have HCI : Hid (rulesCi j l hs (k : Int) = (wordsN j l).map (ruleC j k)) := by unfold Hid rulesCi; rw [if_neg (by simpa using hm)]
            clear hm
            go_wp2_with fail
            refine (containsI_is _ nh ch hs (k : Int) false HM.out _ hah hnh).mono ?_
            rintro e w' ⟨rfl, rfl⟩
            go_wp2_with fail
            refine (wordsOver_any j l _ (by omega) hl3).mono ?_
            rintro e w4 ⟨V4, us4, rfl, R4, B4⟩
            have T4 := T3.below B4
            clear T3 l0 l2 hah
            have HW := Lib.hid R4.len
            obtain ⟨AV, cV, rfl⟩ := own_form R4.own
            obtain ⟨m, hm⟩ : ∃ m, us4.length = m := ⟨_, rfl⟩
            have hm64 : m ≤ 64 := by rw [← hm, R4.len, wordsN_len]; exact pow_small (by omega) hl3
            rw [hm]
            have HMU := Lib.hid hm
            have HMW : Hid ((wordsN j l).length = m) := by unfold Hid; rw [← hm, R4.len]
            clear hm
            go_wp2_with fail
            go_loopw [79] (fun i wr => ∃ (q : Nat) (V : Value) (es : List EMarkovRule), q ≤ m ∧ i = .int .i64 q ∧ TSt w.heap.size box w2.heap.size (w2.heap.size + 1) V es (xs0 ++ rC j l hs k ++ ((wordsN j l).take q).map (ruleC j k)) w wr ∧ WdRow wo3.heap.size (.slice AV us4.length cV) us4 (wordsN j l) wr) (fun i _ => m - (intOf i).toNat)
            case atStart => exact ⟨0, V3, es3, Nat.zero_le _, rfl, by simpa using T4, R4⟩
            case round =>
              obtain ⟨q, V5, es5, hq, rfl, T5, R5⟩ := hrel
              clear T4 R4
              by_cases hqlt : q < m
              rotate_left
              · have T6 : TSt w.heap.size box w2.heap.size (w2.heap.size + 1) V5 es5 (xs0 ++ rC j l hs (k + 1)) w wr := by
                  rw [rC_succ, HCI.out, ← List.append_assoc]
                  rwa [List.take_of_length_le (by have := HMW.out; omega)] at T5
                clear T5 R5
                go_wp2_with fail
                go_roundw
                case rel => exact ⟨k + 1, V5, es5, by omega, by go_num, T6⟩
                case measure => simp [intOf]; omega
              obtain ⟨x, HX⟩ := hget HMW hqlt
              obtain ⟨u, hu, hsrc⟩ := R5.src HX.out
              obtain ⟨Au, cu, rfl⟩ := hsrc.form
              have hxl : x.length = l := wordsN_mem (List.mem_of_getElem? HX.out)
              rw [hxl] at hsrc hu
              obtain ⟨bA, oA, hA, hsl⟩ := (arg_of_own R5.own).sl (k := q) (by have := HMU.out; omega)
              have hcu := hsl.at hu
              subst hA
              have w1' : IntKind.i64.wrap ((j : Int) + (k : Int)) = (j : Int) + (k : Int) := IntWalk.i64_in _ (by omega)
              obtain ⟨wa, HWA, BA, xa, ya⟩ := al2 wr (.cells #[.int .i64 (2 * (j : Int)), .int .i64 k] 2) (.cells #[.slice (some ⟨wr.heap.size, 0, none⟩) 2 2, .slice Au l cu] 25)
              have sla : Sl wa (wr.heap.size + 1) 0 [.slice (some ⟨wr.heap.size, 0, none⟩) 2 2, .slice Au l cu] := ⟨heap_lt ya, fun q v hq => by rw [cell_of_heap ya]; simpa using hq⟩
              have sb : Src 1 wa (.slice (some ⟨wr.heap.size, 0, none⟩) 2 2) 2 ([2 * (j : Int), (k : Int)].map (Value.int .i64)) := Src.of_sl ⟨heap_lt xa, fun q v hq => by rw [cell_of_heap xa]; simpa using hq⟩ rfl
              have sa := hsrc.below BA
              have HXL := Lib.hid hxl
              clear xa ya hu hsl hxl hsrc
              go_wp2_with fail
              rw [← HWA.out]
              refine (joined2_any (wr.heap.size + 1) _ _ 2 l [2 * (j : Int), (k : Int)] x wa sla sb sa (by omega) (by omega)).mono ?_
              rintro e wb ⟨v, rfl, ownv, bb⟩
              obtain ⟨Av, cv, rfl⟩ := own_form ownv
              have hne : (.slice Av (2 + l) cv : Value) ≠ .slice none 0 0 := by
                intro h; injection h with _ h2 _; omega
              have q0 := Wd.of_own (own_base ownv BA.size) hne
              have BAB := below_step BA bb
              obtain ⟨wc, HWC, BC, xc⟩ := al1 wb (.cells #[.int .i64 (2 * (j : Int)), .int .i64 ((j : Int) + (k : Int))] 2)
              have q1 : Wd wb.heap.size (.slice (some ⟨wb.heap.size, 0, none⟩) 2 2) [2 * (j : Int), (j : Int) + (k : Int)] wc := by rw [HWC.out]; exact Wd.laid wb [2 * (j : Int), (j : Int) + (k : Int)] _ rfl (by simp)
              have HLEN : Hid ((xs0 ++ rC j l hs k ++ ((wordsN j l).take q).map (ruleC j k)).length ≤ 1000) := by
                unfold Hid
                have h1 := HL0.out; have h2 := HLC.out; have h3 := HMW.out
                rw [List.length_append, List.length_append, List.length_map, List.length_take]; omega
              have R6 := (R5.below BAB).below BC
              clear xc ownv sla sb sa bb BA R5 hcu
              go_wp2_with fail
              rw [← HWC.out]
              refine (tagAdd_any _ _ _ _ _ _ _ _ _ _ _ _ _ _ _ T5 BAB q0 BC q1 HLEN.out).mono ?_
              rintro e w7 ⟨rfl, ⟨V7, es7, T7⟩, A7⟩
              have R7 := A7.words R6
              have T8 : TSt w.heap.size box w2.heap.size (w2.heap.size + 1) V7 es7 (xs0 ++ rC j l hs k ++ ((wordsN j l).take (q + 1)).map (ruleC j k)) w w7 := by
                rw [List.take_add_one, HX.out, List.map_append, ← List.append_assoc]; exact T7
              clear T5 T7 R6 A7 q0 q1 BAB BC
              go_wp2_with fail
              go_roundw
              case rel => exact ⟨q + 1, V7, es7, by omega, by go_num, T8, R7⟩
              case measure => simp [intOf]; omega
end Go.Proofs.Ytcfkjigapnknnaa
