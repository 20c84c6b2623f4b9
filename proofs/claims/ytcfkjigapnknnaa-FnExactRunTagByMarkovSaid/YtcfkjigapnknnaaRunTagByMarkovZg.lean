/- The law FnExactRunTagByMarkov returns true for every input, and each argument reads afterwards as before: the proof, part 7. No conditions. -/
import Derived.Test.YtcfkjigapnknnaaRunTagByMarkovZf
import Derived.ProofKit
import Derived.OpenShut
import Derived.ShutString
import Derived.ChangeOld
import Derived.Deep.Slices
import Derived.Deep.Fields
import Derived.ChangeSame
/- RunTagByMarkov of the reference. -/
namespace Go.Proofs.Ytcfkjigapnknnaa
open Go.RowKit
set_option linter.all false

set_option maxRecDepth 100000 in
set_option maxHeartbeats 4000000 in
theorem specRunTagByMarkov_any (d : Int) (bw nw cw : Nat) (us : List Value) (ws : List (List Int)) (bh nh ch : Nat) (hs : List Int) (b o m c : Nat) (x : List Int) (bd : Int) (w : World) (wf : Wf64 d)
    (sw : Sl w bw 0 us) (sr : Srcs 1 oneI w us ws) (lw : ws.length = nw) (hnw : nw ≤ 1048576) (hcw : nw ≤ cw) (hsum : sumLen ws ≤ 1048576) (au : AdrW us) (sh : Sl w bh 0 (hs.map (.int .i64))) (lh : hs.length = nh) (hnh : nh ≤ 1048576) (hch : nh ≤ ch)
    (sx : Sl w b o (x.map (.int .i64))) (lx : x.length = m) (hm : m ≤ 1048576) (hc : m ≤ c) (wfx : Wf64s x) (wfb : Wf64 bd) :
    Calls Try.prog 42 #[.agg #[.int .i64 d, .slice (some ⟨bw, 0, none⟩) nw cw, .slice (some ⟨bh, 0, none⟩) nh ch], .slice (some ⟨b, o, none⟩) m c, .int .i64 bd] w fun e w' => ∃ v, e = .returned (.tuple #[v, .int .i64 (runTagMk d ws hs x bd).2.1, .bool (runTagMk d ws hs x bd).2.2.1, .int .i64 (runTagMk d ws hs x bd).2.2.2]) ∧
      w'.ownsRow w.heap.size 2 1 v (runTagMk d ws hs x bd).1.length ((runTagMk d ws hs x bd).1.map (.int .i64)) ∧ Below w.heap.size w w' := by
  obtain ⟨w1, HW1, B1, x1⟩ := al1 w (.cells #[.int .i64 d, .slice (some ⟨bw, 0, none⟩) nw cw, .slice (some ⟨bh, 0, none⟩) nh ch] 61)
  have l0 : w1.cell? ⟨w.heap.size, 0, none⟩ = some (.int .i64 d) := by rw [cell_of_heap x1]; rfl
  have l1 : w1.cell? ⟨w.heap.size, 1, none⟩ = some (.slice (some ⟨bw, 0, none⟩) nw cw) := by rw [cell_of_heap x1]; rfl
  have l2 : w1.cell? ⟨w.heap.size, 2, none⟩ = some (.slice (some ⟨bh, 0, none⟩) nh ch) := by rw [cell_of_heap x1]; rfl
  have HLW := Lib.hid lw; have HLH := Lib.hid lh; have HSUM := Lib.hid hsum; have HLX := Lib.hid lx; have HAU := Lib.hid au
  have sw1 := sw.below' B1; have sr1 := sr.below B1; have sh1 := sh.below' B1; have sx1 := sx.below' B1
  clear x1 sw sr sh sx lh hsum lx au wf wfx wfb hcw hch
  have HIS := fun v (hv : validTag d ws hs = v) => l09Is_is w.heap.size d bw 0 nw cw us ws bh 0 nh ch hs v hv w1 l0 l1 l2 sw1 sr1 HLW.out hnw HSUM.out sh1 HLH.out hnh
  have HIS := Lib.hid HIS
  have L0 := Lib.hid l0; have L1 := Lib.hid l1; have L2 := Lib.hid l2
  clear l0 l1 l2
  go_enter Try.func42, Try.ntmps42
  go_wp2_with fail
  rw [← HW1.out]
  rcases Bool.eq_false_or_eq_true (validTag d ws hs) with h1 | h1
  rotate_left
  · have HF : Hid (runTagMk d ws hs x bd = ([], 0, false, 1)) := runTagMk_bad (by rw [h1]; rfl)
    refine (HIS.out false h1).mono ?_
    rintro e w2 ⟨rfl, q, rfl⟩
    have B2 := below_drewN B1 q
    clear h1 lw
    go_wp2_with fail
    ((try simp only [Exit.inBlock, Exit.then]); refine bodyPost_ret (results_tmp4 rfl _ _ _) rfl ?_)
    exact ⟨_, ends4 (by rw [HF.out]) (by rw [HF.out]) (by rw [HF.out]), own_res0 (by rw [HF.out]), B2⟩
  have HV := Lib.hid h1
  refine (HIS.out true h1).mono ?_
  rintro e w2 ⟨rfl, q, hw2⟩
  have b2 : Below w1.heap.size w1 w2 := quiet_below hw2
  have B2 := below_step B1 b2
  have m1 := cell_step (by exact L1.out) b2
  have sx2 := sx1.below' b2
  have hax : Arg w2 (some ⟨b, o, none⟩) m (x.map (.int .i64)) := Arg.of_sl sx2 (by have := HLX.out; simpa using this)
  rcases Bool.eq_false_or_eq_true (overB nw x) with h2 | h2
  rotate_left
  · have HF : Hid (runTagMk d ws hs x bd = ([], 0, false, 1)) := runTagMk_bad (by rw [lw, h2, Bool.and_false])
    have H2 := Lib.hid h2
    clear h1 h2 lw hw2
    go_wp2_with fail
    refine (l09Good_is w.heap.size _ nw cw _ m c x false H2.out _ m1 hax (by omega) hnw).mono ?_
    rintro e w' ⟨rfl, rfl⟩
    go_wp2_with fail
    ((try simp only [Exit.inBlock, Exit.then]); refine bodyPost_ret (results_tmp4 rfl _ _ _) rfl ?_)
    exact ⟨_, ends4 (by rw [HF.out]) (by rw [HF.out]) (by rw [HF.out]), own_res0 (by rw [HF.out]), B2⟩
  have HO := Lib.hid h2
  have HG : Hid ((validTag d ws hs && overB ws.length x) = true) := by unfold Hid; rw [lw, h1, h2]; rfl
  clear h1 h2 hw2
  go_wp2_with fail
  refine (l09Good_is w.heap.size _ nw cw _ m c x true HO.out _ m1 hax (by omega) hnw).mono ?_
  rintro e w' ⟨rfl, hw'⟩
  subst hw'
  rcases Bool.eq_false_or_eq_true (inB bd 1 20000) with h3 | h3
  rotate_left
  · have HF : Hid (runTagMk d ws hs x bd = ([], 0, false, 2)) := runTagMk_out HG.out h3
    have H3 := Lib.hid h3; clear h3 lw
    go_wp2_with fail
    refine (l05Budget_is bd false H3.out _).mono ?_
    rintro e w' ⟨rfl, rfl⟩
    go_wp2_with fail
    ((try simp only [Exit.inBlock, Exit.then]); refine bodyPost_ret (results_tmp4 rfl _ _ _) rfl ?_)
    exact ⟨_, ends4 (by rw [HF.out]) (by rw [HF.out]) (by rw [HF.out]), own_res0 (by rw [HF.out]), B2⟩
  have H3 := Lib.hid h3
  obtain ⟨f, rfl⟩ : ∃ f : Nat, bd = f := ⟨bd.toNat, by have := (inB_iff _ _ _).1 h3; omega⟩
  have hf : f ≤ 20000 := by have := (inB_iff _ _ _).1 h3; omega
  clear h3 hax m1
  go_wp2_with fail
  refine (l05Budget_is f true H3.out _).mono ?_
  rintro e w' ⟨rfl, hw'⟩
  subst hw'
  have HRULES := Lib.hid (l16TagRules_any w.heap.size d bw 0 nw cw us ws bh 0 nh ch hs w2 HV.out (cell_step (by exact L0.out) b2) (cell_step (by exact L1.out) b2) (cell_step (by exact L2.out) b2) (sw1.below' b2) (sr1.below b2) HLW.out hnw HSUM.out HAU.out (sh1.below' b2) HLH.out hnh)
  rcases Bool.eq_false_or_eq_true (tagOk d ws hs) with h4 | h4
  rotate_left
  · have HF : Hid (runTagMk d ws hs x f = ([], 0, false, 5)) := runTagMk_full HG.out H3.out (by rw [h4]; rfl)
    have HT := Lib.hid h4
    clear h4 lw
    go_wp2_with fail
    refine HRULES.out.mono ?_
    rw [HT.out]
    rintro e w3 ⟨V, es, xs, rfl, R, -, b3⟩
    have B3 := below_step B2 b3
    obtain ⟨A, cV, rfl⟩ := own_form R.acc.own
    clear R
    go_wp2_with fail
    ((try simp only [Exit.inBlock, Exit.then]); refine bodyPost_ret (results_tmp4 rfl _ _ _) rfl ?_)
    exact ⟨_, ends4 (by rw [HF.out]) (by rw [HF.out]) (by rw [HF.out]), own_res0 (by rw [HF.out]), B3⟩
  have hmk : 2 * nw ≤ 9 ∧ validMks (tagRules d ws hs) = true := by
    unfold tagOk at h4; rw [lw, Bool.and_eq_true] at h4; exact ⟨of_decide_eq_true h4.1, h4.2⟩
  have hnw9 := hmk.1
  have HVM := Lib.hid hmk.2
  have H4 := Lib.hid h4
  clear h4 hmk
  go_wp2_with fail
  refine HRULES.out.mono ?_
  rw [H4.out]
  rintro e w3 ⟨V, es, xs, rfl, R, hxs, b3⟩
  have hxs := hxs rfl
  subst hxs
  have B3 := below_step B2 b3
  have B13 := below_step b2 b3
  obtain ⟨rs, hrs⟩ : ∃ rs, tagRules d ws hs = rs := ⟨_, rfl⟩
  rw [hrs] at R HVM
  have HRS := Lib.hid hrs; clear hrs
  have hv60 := validMks_len HVM.out
  have HSM := Lib.hid (validMks_sum HVM.out).2
  obtain ⟨gV, cV, hVe, hcV, slV⟩ := R.addr (by show 0 < rs.length; omega)
  obtain ⟨nr, hnr⟩ : ∃ nr, rs.length = nr := ⟨_, rfl⟩
  rw [hnr] at hVe hcV hv60
  have HNR := Lib.hid hnr; clear hnr
  subst hVe
  have HRC := Lib.hid R.rcs
  have HRM : Hid (es.map (·.d) = rs) := R.map
  have HSV := Lib.hid slV
  clear R slV
  by_cases h5 : m < 400
  rotate_left
  · have HF : Hid (runTagMk d ws hs x f = ([], 0, false, 5)) := runTagMk_full HG.out H3.out (by rw [HLX.out, decide_eq_false h5, Bool.and_false])
    clear lw
    go_wp2_with fail
    ((try simp only [Exit.inBlock, Exit.then]); refine bodyPost_ret (results_tmp4 rfl _ _ _) rfl ?_)
    exact ⟨_, ends4 (by rw [HF.out]) (by rw [HF.out]) (by rw [HF.out]), own_res0 (by rw [HF.out]), B3⟩
  have HA : Hid (runTagMk d ws hs x f = runT rs nw f 0 (2 * (nw : Int) :: x) []) := by
    have := runTagMk_run (d := d) (ws := ws) (hs := hs) (w := x) HG.out H3.out (by rw [H4.out, HLX.out, decide_eq_true h5]; rfl)
    unfold Hid; rw [this, HRS.out, lw]
  have m1 := cell_step (by exact L1.out) B13
  have sx3 := sx1.below' B13
  clear lw HRULES sx2
  go_wp2_with fail
  refine (l16Front_is w.heap.size _ nw cw _ m1 hnw).mono ?_
  rintro e w' ⟨rfl, hw'⟩
  subst hw'
  obtain ⟨wa, HWA, BA, xa⟩ := al1 w3 (.cells #[.int .i64 (2 * (nw : Int))] 2)
  have owna : wa.ownsRow w3.heap.size 2 1 (.slice (some ⟨w3.heap.size, 0, none⟩) 1 1) 1 ([2 * (nw : Int)].map (Value.int .i64)) := by
    rw [HWA.out]; exact own_laid w3 2 1 1 #[.int .i64 (2 * (nw : Int))] rfl (by unfold maxLen; omega)
  have srcx : Src 1 wa (.slice (some ⟨b, o, none⟩) m c) m (x.map (Value.int .i64)) := Src.of_sl (sx3.below' BA) (by have := HLX.out; simp; omega)
  clear xa m1
  go_wp2_with (at_builtin; rw [← HWA.out]; refine wpList_appx rfl _ _ _ rfl Try.underlying25 infoInt64S rfl (by omega) w3.heap.size owna BA.size rfl srcx rfl (one_ints _ _) (by unfold maxLen; omega) (by omega) ?_; intro vb wb ownb hgb hnilb; have hneb : vb ≠ .slice none 0 0 := (fun h => by have := (hnilb h).1; cases this); have Bb := grown_below BA owna (Nat.le_refl _) hgb; obtain ⟨gb, cb, hvb, hcb⟩ := own_adr ownb hneb; subst hvb; obtain ⟨w5, HW5, b5, x5⟩ := al1 wb (.cells #[] 2); have own5 : w5.ownsRow wb.heap.size 2 1 (.slice (some ⟨wb.heap.size, 0, none⟩) 0 0) 0 (([] : List Int).map (Value.int .i64)) := (by rw [HW5.out]; exact own_empty wb _ 1); clear hnilb hgb hneb x5)
  rw [← HW5.out]
  have BB3 := below_step Bb b5
  have B5 := below_step B3 BB3
  have B15 := below_step B13 BB3
  have ownn5 : w5.ownsRow w.heap.size 2 1 (.slice (some ⟨gb, 0, none⟩) (1 + m) cb) (1 + m) ((2 * (nw : Int) :: x).map (Value.int .i64)) := own_base (own_below' ownb b5) B3.size
  have ownl5 := own_base own5 (Nat.le_trans B3.size Bb.size)
  clear owna srcx ownb own5 Bb b5 BA
  go_loopw [12, 13, 14] (fun vn vl i wr => ∃ (k q mn ml gn dn : Nat) (y la : List Int), k + q = f ∧ i = .int .i64 k ∧ vn = .slice (some ⟨gn, 0, none⟩) mn dn ∧ mn ≤ dn ∧ mn ≤ 400 ∧ ml ≤ 1000 ∧ wr.ownsRow w.heap.size 2 1 (.slice (some ⟨gn, 0, none⟩) mn dn) mn (y.map (.int .i64)) ∧ wr.ownsRow w.heap.size 2 1 vl ml (la.map (.int .i64)) ∧ Below w.heap.size w wr ∧ Below w1.heap.size w1 wr ∧ Below w3.heap.size w3 wr ∧ Hid (y.length = mn) ∧ Hid (la.length = ml) ∧ Hid (runTagMk d ws hs x f = runT rs nw q k y la)) (fun _ _ i _ => f - (intOf i).toNat)
  case atStart => exact ⟨0, f, 1 + m, 0, gb, cb, 2 * (nw : Int) :: x, [], by omega, rfl, rfl, hcb, by omega, by omega, ownn5, ownl5, B5, B15, BB3, by have := HLX.out; unfold Hid; simp; omega, rfl, HA.out⟩
  case round =>
    obtain ⟨k, q, mn, ml, gn, dn, y, la, hkq, rfl, rfl, hdn, hmn, hml, hon, hol, B, B1r, B3r, HY, HLA, HQ⟩ := hrel
    clear ownn5 ownl5 B5 B15 BB3
    obtain ⟨Al, cl, rfl⟩ := own_form hol
    have m1 := cell_step (by exact L1.out) B1r
    have sln := sl_of_own hon
    obtain ⟨wo, rfl⟩ : ∃ wo, wo = wr := ⟨_, rfl⟩
    cases htw : tagW nw y
    case' none =>
      have HTW2 := Lib.hid htw
      have hlt := lastT_none (last := la) htw
      obtain ⟨la2, hla2⟩ : ∃ la2, lastT nw y la = la2 := ⟨_, rfl⟩
      have HLT := Lib.hid hla2
      rw [hla2] at hlt
      obtain ⟨ml2, hml2⟩ : ∃ ml2, ml2 = ml := ⟨_, rfl⟩
      clear htw hla2
      go_wp2_with fail
      refine (l16Tag_no w.heap.size _ nw cw gn 0 mn dn y HTW2.out wo m1 sln HY.out (by omega) hdn (by omega)).mono ?_
      rintro e w6 ⟨rfl, q6, hw6⟩
      have b6 : Below wo.heap.size wo w6 := quiet_below hw6
      have B6 := below_step B b6
      have B16 := below_step B1r b6
      have B36 := below_step B3r b6
      have hon6 := own_below' hon b6
      have hol6 := own_below' hol b6
      have HML2 : Hid (la2.length = ml) := by unfold Hid; rw [hlt]; exact HLA.out
      rw [← hlt] at hol6
      rw [← hml2] at hol6 HML2 ⊢
      have hml2' : ml2 ≤ 1000 := by omega
      obtain ⟨Al2, rfl⟩ : ∃ A, A = Al := ⟨_, rfl⟩
      obtain ⟨cl2, rfl⟩ : ∃ A, A = cl := ⟨_, rfl⟩
      clear hon hol sln hw6 b6 B B1r B3r m1 hlt hml2
      go_wp2_with fail
    case' some z =>
      have HTW2 := Lib.hid htw
      have hlt := lastT_some (last := la) htw
      obtain ⟨la2, hla2⟩ : ∃ la2, lastT nw y la = la2 := ⟨_, rfl⟩
      have HLT := Lib.hid hla2
      rw [hla2] at hlt
      have hzl := tagW_len htw
      clear htw hla2
      go_wp2_with fail
      refine (l16Tag_yes w.heap.size _ nw cw gn 0 mn dn y z HTW2.out wo m1 sln HY.out (by omega) hdn (by omega)).mono ?_
      rintro e w6 ⟨vz, rfl, ownz, b6⟩
      have B6 := below_step B b6
      have B16 := below_step B1r b6
      have B36 := below_step B3r b6
      have hon6 := own_below' hon b6
      have hol6 := own_base ownz B.size
      have HML2 : Hid (la2.length = mn - 1) := by unfold Hid; rw [hlt]; have := HY.out; omega
      rw [← hlt] at hol6
      obtain ⟨ml2, hml2⟩ : ∃ ml2, ml2 = mn - 1 := ⟨_, rfl⟩
      rw [← hml2] at hol6 HML2
      have hml2' : ml2 ≤ 1000 := by omega
      obtain ⟨Al2, cl2, rfl⟩ := own_form hol6
      clear hon hol sln b6 B B1r B3r m1 hlt hml2 ownz hzl
      go_wp2_with fail
    all_goals
      have hsV := HSV.out.below' B36
      have hrV := HRC.out.below B36
      have sln6 := sl_of_own hon6
      have HRU := l10Rule_any gV 0 nr cV es rs gn 0 mn dn y w6 hsV hrV HRM.out HNR.out (by omega) (by have := HSM.out; omega) sln6 HY.out (by omega) hdn
      have HSTEP := fun (W : World) (hW : Below w6.heap.size w6 W) => l10Step_any gV 0 nr cV es rs gn 0 mn dn y W (hsV.below' hW) (hrV.below hW) HRM.out HNR.out (by omega) (by have := HSM.out; omega) (sln6.below' hW) HY.out (by omega) hdn
      rcases ruleMk_cases y rs with ⟨h, -⟩ | ⟨i, a, r, hri, hra, h, -⟩
      · have HF : Hid (runTagMk d ws hs x f = (la2, (k : Int), true, 0)) := by unfold Hid; rw [HQ.out, runT_none h, HLT.out]
        rw [h] at HRU
        have HRU := Lib.hid HRU
        clear h HSTEP
        refine HRU.out.mono ?_
        rintro e w7 ⟨rfl, q7, rfl⟩
        go_wp2_with fail
        ((try simp only [Exit.inBlock, Exit.then]); refine bodyPost_ret (results_tmp4 rfl _ _ _) rfl ?_)
        exact ⟨_, ends4 (by rw [HF.out]) (by rw [HF.out]) (by rw [HF.out]), own_res (by rw [HF.out]) HML2.out (own_below' hol6 (quiet_below rfl)), below_drewN B6 _⟩
      obtain ⟨z7, hz7⟩ : ∃ z, z = putL y a r.f0.length r.f1 := ⟨_, rfl⟩
      rw [h] at HRU
      simp only at HRU
      have HRU := Lib.hid HRU
      have hi60 : i < nr := by have := (List.getElem?_eq_some_iff.1 hri).1; have := HNR.out; omega
      have hin : ¬ ((i : Int) < 0) := by omega
      have HH := Lib.hid h; have HRI := Lib.hid hri
      cases q with
      | zero =>
        obtain rfl : k = f := by omega
        have HF : Hid (runTagMk d ws hs x k = (la2, (k : Int), false, 0)) := by unfold Hid; rw [HQ.out, runT_stop hri h, HLT.out]
        clear h hri hra HSTEP hz7
        refine HRU.out.mono ?_
        rintro e w7 ⟨rfl, q7, rfl⟩
        go_wp2_with fail
        ((try simp only [Exit.inBlock, Exit.then]); refine bodyPost_ret (results_tmp4 rfl _ _ _) rfl ?_)
        exact ⟨_, ends4 (by rw [HF.out]) (by rw [HF.out]; first | done | exact decide_eq_false (by omega)) (by rw [HF.out]), own_res (by rw [HF.out]) HML2.out (own_below' hol6 (quiet_below rfl)), below_drewN B6 _⟩
      | succ q =>
      have hkb : k < f := by omega
      have hkn : ((k : Int) == (f : Int)) = false := by simp; omega
      by_cases hf4 : (putL y a r.f0.length r.f1).length ≤ 400
      rotate_left
      · have HF : Hid (runTagMk d ws hs x f = ([], 0, false, 5)) := by unfold Hid; rw [HQ.out, runT_full hri h (by omega)]
        have HS : stepMk rs y = ([], 0, 5) := stepMk_full hri h (by omega)
        rw [HS] at HSTEP
        have HSTEP := Lib.hid HSTEP
        clear h hri hra hz7 HS hf4
        refine HRU.out.mono ?_
        rintro e w7 ⟨rfl, q7, hw7⟩
        have b7 : Below w6.heap.size w6 w7 := quiet_below hw7
        have B7 := below_step B6 b7
        have HST := Lib.hid (HSTEP.out w7 b7)
        clear hw7
        go_wp2_with fail
        refine HST.out.mono ?_
        rintro e w8 ⟨v, rfl, own8, b8, -⟩
        obtain ⟨A8, d8, rfl⟩ := own_form own8
        have B8 := below_step B7 b8
        go_wp2_with fail
        ((try simp only [Exit.inBlock, Exit.then]); refine bodyPost_ret (results_tmp4 rfl _ _ _) rfl ?_)
        exact ⟨_, ends4 (by rw [HF.out]) (by rw [HF.out]) (by rw [HF.out]), own_res0 (by rw [HF.out]), B8⟩
      have HN : Hid (runTagMk d ws hs x f = runT rs nw q (k + 1) z7 la2) := by
        unfold Hid
        rw [HQ.out, runT_next hri h hf4, ← hz7, HLT.out]
      have HS : stepMk rs y = (putL y a r.f0.length r.f1, (i : Int), 0) := stepMk_fits hri h hf4
      rw [HS, ← hz7] at HSTEP
      simp only at HSTEP
      rw [← hz7] at hf4
      obtain ⟨mz, hmz⟩ : ∃ q, q = z7.length := ⟨_, rfl⟩
      rw [← hmz] at HSTEP hf4
      have HMZ := Lib.hid hmz.symm
      have HSTEP := Lib.hid HSTEP
      clear h hri hra hz7 HS hmz
      refine HRU.out.mono ?_
      rintro e w7 ⟨rfl, q7, hw7⟩
      have b7 : Below w6.heap.size w6 w7 := quiet_below hw7
      have HST := Lib.hid (HSTEP.out w7 b7)
      clear hw7
      go_wp2_with fail
      refine HST.out.mono ?_
      rintro e w8 ⟨v, rfl, own8, b8, hv8⟩
      obtain ⟨g8, d8, rfl, hd8⟩ := hv8 trivial
      have b68 := below_step b7 b8
      have B8 := below_step B6 b68
      have B18 := below_step B16 b68
      have B38 := below_step B36 b68
      have hol8 := own_below' hol6 b68
      have own9 := own_base own8 (Nat.le_trans B6.size b7.size)
      clear own8 b7 b8 hv8 B6 B16 B36 hon6 hol6 hsV hrV sln6 b68
      go_wp2_with fail
      go_roundw
      case rel => exact ⟨k + 1, q, mz, ml2, g8, d8, z7, la2, by omega, by go_num, rfl, hd8, hf4, hml2', own9, hol8, B8, B18, B38, HMZ, HML2, HN⟩
      case measure => simp [intOf]; omega
end Go.Proofs.Ytcfkjigapnknnaa

/- Contracts of the laws' helpers on one Tag: copy, compare with a copy, size, mark, look at the marks. -/
namespace Go.Proofs.Ytcfkjigapnknnaa
open Go.RowKit
set_option linter.all false

theorem quiet_q_belowTag {w w' : World} (h : ∃ q, w' = w.drewN q) : Below w.heap.size w w' := by obtain ⟨q, hq⟩ := h; exact quiet_below hq

set_option maxRecDepth 100000 in
set_option maxHeartbeats 1000000 in
theorem toTagO_any (f0 : Int) (A1 : Option Addr) (n1 c1 : Nat) (v1 : List Value) (x1 : List (List Int)) (A2 : Option Addr) (n2 c2 : Nat) (x2 : List Int) (w : World) (h1 : Arg w A1 n1 v1) (r1 : Ins 1 oneI w v1 x1) (h2 : Arg w A2 n2 (x2.map (Value.int .i64))) (s1 : n1 ≤ 1048576) (t1 : sumLen x1 ≤ 1048576) (s2 : n2 ≤ 1048576) :
    Calls Try.prog 31 #[.agg #[.int .i64 f0, .slice A1 n1 c1, .slice A2 n2 c2]] w fun z w' => (∃ (g1 e1 : Nat) (us1 : List Value) (g2 e2 : Nat), z = .returned (.agg #[.int .i64 f0, .slice (some ⟨g1, 0, none⟩) n1 n1, .slice (some ⟨g2, 0, none⟩) n2 n2]) ∧ w.heap.size ≤ g1 ∧ g1 ≤ e1 ∧ e1 ≤ g2 ∧ g2 ≤ e2 ∧ e2 ≤ w'.heap.size ∧ Held g1 e1 (Grid g1 e1 25 1 (.slice (some ⟨g1, 0, none⟩) n1 n1) n1 us1 2 1 us1 (itsOf oneI x1)) w' ∧ Held g2 e2 (Flat g2 e2 2 1 (.slice (some ⟨g2, 0, none⟩) n2 n2) n2 (x2.map (Value.int .i64))) w' ∧ AdrW us1) ∧ Below w.heap.size w w' := by
  obtain ⟨w0, HW0, B0, hx0, y0, z0, sz0⟩ := al3 w (.cells #[.int .i64 f0, .slice A1 n1 c1, .slice A2 n2 c2] 56) (.cells #[.int .i64 0, .slice none 0 0, .slice none 0 0] 61) (.cells #[.int .i64 f0, .slice none 0 0, .slice none 0 0] 61)
  have L0 : w.heap.size + 1 + 1 + 1 ≤ w0.heap.size := by omega
  go_enter Try.func31, Try.ntmps31
  go_wp2_with fail
  rw [← HW0.out]
  refine (toInt64SSA_any A1 n1 c1 v1 x1 _ (h1.below B0) (r1.below B0) s1 t1).mono ?_
  rintro z w1a ⟨rfl, ⟨us1, own1, ad1⟩, b1⟩
  have B0a := below_step B0 b1
  have hx0a := (b1.block _ (heap_lt hx0)).trans hx0
  have y0a := (b1.block _ (heap_lt y0)).trans y0
  have z0a := (b1.block _ (heap_lt z0)).trans z0
  have bz1 := b1.size
  have H1_0a := own1.held (Nat.le_refl _)
  obtain ⟨g1, hg1⟩ : ∃ g : Nat, g = w0.heap.size := ⟨_, rfl⟩
  obtain ⟨e1, he91⟩ : ∃ e : Nat, e = w1a.heap.size := ⟨_, rfl⟩
  rw [← hg1, ← he91] at H1_0a
  rw [← hg1]
  have LG1 : w.heap.size + 1 + 1 + 1 ≤ g1 := by omega
  have GE1 : g1 ≤ e1 := by omega
  have EW1 : e1 = w1a.heap.size := he91
  clear hg1
  obtain ⟨w1, HW1, B1, hx1, y1, z1, H1_1, SZ1⟩ : ∃ w1, Hid (w1 = (w1a.setCell ⟨w.heap.size + 1 + 1, 1, none⟩ (.slice (some ⟨g1, 0, none⟩) n1 n1))) ∧ Below w.heap.size w w1 ∧ w1.heap[w.heap.size]? = some (.cells #[.int .i64 f0, .slice A1 n1 c1, .slice A2 n2 c2] 56 (0, 0)) ∧ w1.heap[w.heap.size + 1]? = some (.cells #[.int .i64 0, .slice none 0 0, .slice none 0 0] 61 (0, 0)) ∧ w1.heap[w.heap.size + 1 + 1]? = some (.cells #[.int .i64 f0, .slice (some ⟨g1, 0, none⟩) n1 n1, .slice none 0 0] 61 (0, 0)) ∧ Held g1 e1 (Grid g1 e1 25 1 (.slice (some ⟨g1, 0, none⟩) n1 n1) n1 us1 2 1 us1 (itsOf oneI x1)) w1 ∧ w1a.heap.size = w1.heap.size := by
    refine ⟨_, rfl, ?_, ?_, ?_, ?_, ?_, ?_⟩
    · exact (B0a.setCell (p := ⟨w.heap.size + 1 + 1, 1, none⟩) (by simp; omega) _)
    · exact (heap_set_other hx0a ⟨w.heap.size + 1 + 1, 1, none⟩ (by dsimp only; omega) _)
    · exact (heap_set_other y0a ⟨w.heap.size + 1 + 1, 1, none⟩ (by dsimp only; omega) _)
    · exact (heap_set z0a (.slice (some ⟨g1, 0, none⟩) n1 n1))
    · exact H1_0a.far ((Touch.refl (w.heap.size + 1 + 1) (w.heap.size + 1 + 1 + 1) w1a).setCell (p := ⟨w.heap.size + 1 + 1, 1, none⟩) ⟨by simp, by simp⟩ _) (.inr LG1)
    · simp [World.setCell]
  have kz0 : w1a.frozen? ⟨w.heap.size + 1 + 1, 0, none⟩ = false := frozen_of_heap z0a
  have ez0_1 : ∃ u, w1a.cell? ⟨w.heap.size + 1 + 1, 1, none⟩ = some u := ⟨_, by rw [cell_of_heap z0a]; rfl⟩
  obtain ⟨oz0_1, ez0_1⟩ := ez0_1
  have fz0_1 : w1a.frozen? ⟨w.heap.size + 1 + 1, 1, none⟩ = false := frozen_of_heap z0a
  have cx0_2 : w1a.cell? ⟨w.heap.size, 2, none⟩ = some (.slice A2 n2 c2) := by rw [cell_of_heap hx0a]; rfl
  clear HW0 hx0 y0 z0 hx0a own1 H1_0a  y0a z0a
  go_wp2_with fail
  rw [← HW1.out]
  refine (toInt64S_any A2 n2 c2 x2 _ (h2.below B1) s2).mono ?_
  rintro z w2a ⟨rfl, own2, b2⟩
  have B1a := below_step B1 b2
  have hx1a := (b2.block _ (heap_lt hx1)).trans hx1
  have y1a := (b2.block _ (heap_lt y1)).trans y1
  have z1a := (b2.block _ (heap_lt z1)).trans z1
  have bz2 := b2.size
  have H2_1a := flat_of_own own2
  have H1_1a := H1_1.below b2
  obtain ⟨g2, hg2⟩ : ∃ g : Nat, g = w1.heap.size := ⟨_, rfl⟩
  obtain ⟨e2, he92⟩ : ∃ e : Nat, e = w2a.heap.size := ⟨_, rfl⟩
  rw [← hg2, ← he92] at H2_1a
  rw [← hg2]
  have LG2 : w.heap.size + 1 + 1 + 1 ≤ g2 := by omega
  have GE2 : g2 ≤ e2 := by omega
  have EW2 : e2 = w2a.heap.size := he92
  have EG2 : e1 ≤ g2 := by omega
  clear hg2
  obtain ⟨w2, HW2, B2, hx2, y2, z2, H1_2, H2_2, SZ2⟩ : ∃ w2, Hid (w2 = (w2a.setCell ⟨w.heap.size + 1 + 1, 2, none⟩ (.slice (some ⟨g2, 0, none⟩) n2 n2))) ∧ Below w.heap.size w w2 ∧ w2.heap[w.heap.size]? = some (.cells #[.int .i64 f0, .slice A1 n1 c1, .slice A2 n2 c2] 56 (0, 0)) ∧ w2.heap[w.heap.size + 1]? = some (.cells #[.int .i64 0, .slice none 0 0, .slice none 0 0] 61 (0, 0)) ∧ w2.heap[w.heap.size + 1 + 1]? = some (.cells #[.int .i64 f0, .slice (some ⟨g1, 0, none⟩) n1 n1, .slice (some ⟨g2, 0, none⟩) n2 n2] 61 (0, 0)) ∧ Held g1 e1 (Grid g1 e1 25 1 (.slice (some ⟨g1, 0, none⟩) n1 n1) n1 us1 2 1 us1 (itsOf oneI x1)) w2 ∧ Held g2 e2 (Flat g2 e2 2 1 (.slice (some ⟨g2, 0, none⟩) n2 n2) n2 (x2.map (Value.int .i64))) w2 ∧ w2a.heap.size = w2.heap.size := by
    refine ⟨_, rfl, ?_, ?_, ?_, ?_, ?_, ?_, ?_⟩
    · exact (B1a.setCell (p := ⟨w.heap.size + 1 + 1, 2, none⟩) (by simp; omega) _)
    · exact (heap_set_other hx1a ⟨w.heap.size + 1 + 1, 2, none⟩ (by dsimp only; omega) _)
    · exact (heap_set_other y1a ⟨w.heap.size + 1 + 1, 2, none⟩ (by dsimp only; omega) _)
    · exact (heap_set z1a (.slice (some ⟨g2, 0, none⟩) n2 n2))
    · exact H1_1a.far ((Touch.refl (w.heap.size + 1 + 1) (w.heap.size + 1 + 1 + 1) w2a).setCell (p := ⟨w.heap.size + 1 + 1, 2, none⟩) ⟨by simp, by simp⟩ _) (.inr LG1)
    · exact H2_1a.far ((Touch.refl (w.heap.size + 1 + 1) (w.heap.size + 1 + 1 + 1) w2a).setCell (p := ⟨w.heap.size + 1 + 1, 2, none⟩) ⟨by simp, by simp⟩ _) (.inr LG2)
    · simp [World.setCell]
  have kz1 : w2a.frozen? ⟨w.heap.size + 1 + 1, 0, none⟩ = false := frozen_of_heap z1a
  have ez1_2 : ∃ u, w2a.cell? ⟨w.heap.size + 1 + 1, 2, none⟩ = some u := ⟨_, by rw [cell_of_heap z1a]; rfl⟩
  obtain ⟨oz1_2, ez1_2⟩ := ez1_2
  have fz1_2 : w2a.frozen? ⟨w.heap.size + 1 + 1, 2, none⟩ = false := frozen_of_heap z1a
  clear HW1 hx1 y1 z1 hx1a own2 H1_1a H2_1a H1_1 
  have lz0 : w2a.cell? ⟨w.heap.size + 1 + 1, 0, none⟩ = some (.int .i64 f0) := by rw [cell_of_heap z1a]; rfl
  have ly0 : w2a.cell? ⟨w.heap.size + 1, 0, none⟩ = some (.int .i64 0) := by rw [cell_of_heap y1a]; rfl
  have fy0 : w2a.frozen? ⟨w.heap.size + 1, 0, none⟩ = false := frozen_of_heap y1a
  have lz1 : w2a.cell? ⟨w.heap.size + 1 + 1, 1, none⟩ = some (.slice (some ⟨g1, 0, none⟩) n1 n1) := by rw [cell_of_heap z1a]; rfl
  have ly1 : w2a.cell? ⟨w.heap.size + 1, 1, none⟩ = some (.slice none 0 0) := by rw [cell_of_heap y1a]; rfl
  have fy1 : w2a.frozen? ⟨w.heap.size + 1, 1, none⟩ = false := frozen_of_heap y1a
  have ly2 : w2a.cell? ⟨w.heap.size + 1, 2, none⟩ = some (.slice none 0 0) := by rw [cell_of_heap y1a]; rfl
  have fy2 : w2a.frozen? ⟨w.heap.size + 1, 2, none⟩ = false := frozen_of_heap y1a
  clear y1a z1a
  go_wp2
  refine bodyPost_ret (v := .agg #[.int .i64 f0, .slice (some ⟨g1, 0, none⟩) n1 n1, .slice (some ⟨g2, 0, none⟩) n2 n2]) (by simp [results, Try.results31, go_sem, ly0, ly1, ly2]) rfl ?_
  rw [← HW2.out]
  refine ⟨⟨g1, e1, us1, g2, e2, rfl, by omega, GE1, EG2, GE2, ?_, ?_, ?_, ad1⟩, ?_⟩
  · simp [World.setCell]; omega
  · exact H1_2.far ((((Touch.refl (w.heap.size + 1) (w.heap.size + 1 + 1) w2).setCell (p := ⟨w.heap.size + 1, 0, none⟩) ⟨by simp, by simp⟩ _).setCell (p := ⟨w.heap.size + 1, 1, none⟩) ⟨by simp, by simp⟩ _).setCell (p := ⟨w.heap.size + 1, 2, none⟩) ⟨by simp, by simp⟩ _) (.inr (by omega))
  · exact H2_2.far ((((Touch.refl (w.heap.size + 1) (w.heap.size + 1 + 1) w2).setCell (p := ⟨w.heap.size + 1, 0, none⟩) ⟨by simp, by simp⟩ _).setCell (p := ⟨w.heap.size + 1, 1, none⟩) ⟨by simp, by simp⟩ _).setCell (p := ⟨w.heap.size + 1, 2, none⟩) ⟨by simp, by simp⟩ _) (.inr (by omega))
  · exact (((B2.setCell (p := ⟨w.heap.size + 1, 0, none⟩) (by simp) _).setCell (p := ⟨w.heap.size + 1, 1, none⟩) (by simp) _).setCell (p := ⟨w.heap.size + 1, 2, none⟩) (by simp) _)

set_option maxRecDepth 100000 in
set_option maxHeartbeats 1000000 in
theorem szTagO_any (f0 : Int) (A1 : Option Addr) (n1 c1 : Nat) (v1 : List Value) (x1 : List (List Int)) (A2 : Option Addr) (n2 c2 : Nat) (x2 : List Int) (left : Int) (w : World) (h1 : Arg w A1 n1 v1) (r1 : Ins 1 oneI w v1 x1) (h2 : Arg w A2 n2 (x2.map (Value.int .i64))) (hl0 : 0 ≤ left) (hl1 : left ≤ 1048576) (u1 : n1 ≤ 9223372036854775807) (l1 : ∀ t ∈ x1, t.length ≤ 9223372036854775807) (u2 : n2 ≤ 9223372036854775807) :
    Calls Try.prog 29 #[.agg #[.int .i64 f0, .slice A1 n1 c1, .slice A2 n2 c2], .int .i64 left] w fun z w' => (∃ q : Int, z = .returned (.int .i64 q) ∧ SzOut ((n1 + sumLen x1) + (n2)) left q) ∧ Below w.heap.size w w' := by
  obtain ⟨w0, HW0, B0, hx0⟩ := al1 w (.cells #[.int .i64 f0, .slice A1 n1 c1, .slice A2 n2 c2] 56)
  obtain ⟨m1, hm1⟩ : ∃ m, Hid (m = n1 + sumLen x1) := ⟨_, rfl⟩
  rw [← hm1.out]
  by_cases y1 : (m1 : Int) ≤ left
  rotate_left
  · have Y := Lib.hid y1
    go_enter Try.func29, Try.ntmps29
    have lx1 : w0.cell? ⟨w.heap.size, 1, none⟩ = some (.slice A1 n1 c1) := by rw [cell_of_heap hx0]; rfl
    go_wp2_with fail
    rw [← HW0.out]
    refine (szInt64SS_any A1 n1 c1 v1 x1 (left) _ (h1.below B0) (r1.below B0) (by omega) (by omega) u1 l1).mono ?_
    rintro z w' ⟨⟨q1, rfl, hq1⟩, rfl⟩
    rw [← hm1.out] at hq1
    unfold SzOut at hq1
    obtain rfl : q1 = -1 := by omega
    go_wp2_with fail
    go_ret
    exact ⟨⟨_, rfl, szOut_no (by omega)⟩, B0⟩
  by_cases y2 : (m1 : Int) + (n2 : Int) ≤ left
  rotate_left
  · have Y := Lib.hid y2
    go_enter Try.func29, Try.ntmps29
    have lx1 : w0.cell? ⟨w.heap.size, 1, none⟩ = some (.slice A1 n1 c1) := by rw [cell_of_heap hx0]; rfl
    go_wp2_with fail
    rw [← HW0.out]
    refine (szInt64SS_any A1 n1 c1 v1 x1 (left) _ (h1.below B0) (r1.below B0) (by omega) (by omega) u1 l1).mono ?_
    rintro z w' ⟨⟨q1, rfl, hq1⟩, rfl⟩
    rw [← hm1.out] at hq1
    unfold SzOut at hq1
    obtain rfl : q1 = left - (m1 : Int) := by omega
    have nn1 : ¬ left - (m1 : Int) < 0 := by omega
    clear hq1
    have lx2 : w0.cell? ⟨w.heap.size, 2, none⟩ = some (.slice A2 n2 c2) := by rw [cell_of_heap hx0]; rfl
    go_wp2_with fail
    refine (inSzInt64S A2 n2 c2 (left - (m1 : Int)) _ (by omega) (by omega) (by omega)).mono ?_
    rintro z w' ⟨⟨q2, rfl, hq2⟩, rfl⟩
    unfold SzOut at hq2
    obtain rfl : q2 = -1 := by omega
    go_wp2_with fail
    go_ret
    exact ⟨⟨_, rfl, szOut_no (by omega)⟩, B0⟩
  go_enter Try.func29, Try.ntmps29
  have lx1 : w0.cell? ⟨w.heap.size, 1, none⟩ = some (.slice A1 n1 c1) := by rw [cell_of_heap hx0]; rfl
  go_wp2_with fail
  rw [← HW0.out]
  refine (szInt64SS_any A1 n1 c1 v1 x1 (left) _ (h1.below B0) (r1.below B0) (by omega) (by omega) u1 l1).mono ?_
  rintro z w' ⟨⟨q1, rfl, hq1⟩, rfl⟩
  rw [← hm1.out] at hq1
  unfold SzOut at hq1
  obtain rfl : q1 = left - (m1 : Int) := by omega
  have nn1 : ¬ left - (m1 : Int) < 0 := by omega
  clear hq1
  have lx2 : w0.cell? ⟨w.heap.size, 2, none⟩ = some (.slice A2 n2 c2) := by rw [cell_of_heap hx0]; rfl
  go_wp2_with fail
  refine (inSzInt64S A2 n2 c2 (left - (m1 : Int)) _ (by omega) (by omega) (by omega)).mono ?_
  rintro z w' ⟨⟨q2, rfl, hq2⟩, rfl⟩
  unfold SzOut at hq2
  obtain rfl : q2 = left - (m1 : Int) - (n2 : Int) := by omega
  have nn2 : ¬ left - (m1 : Int) - (n2 : Int) < 0 := by omega
  clear hq2
  go_wp2_with fail
  go_ret
  exact ⟨⟨_, rfl, szOut_yes (by omega) (by omega)⟩, B0⟩

theorem szTagO_is (f0 : Int) (A1 : Option Addr) (n1 c1 : Nat) (v1 : List Value) (x1 : List (List Int)) (A2 : Option Addr) (n2 c2 : Nat) (x2 : List Int) (left r : Nat) (w : World) (h1 : Arg w A1 n1 v1) (r1 : Ins 1 oneI w v1 x1) (h2 : Arg w A2 n2 (x2.map (Value.int .i64))) (hr : r + ((n1 + sumLen x1) + (n2)) = left) (hl1 : left ≤ 1048576) (u1 : n1 ≤ 9223372036854775807) (l1 : ∀ t ∈ x1, t.length ≤ 9223372036854775807) (u2 : n2 ≤ 9223372036854775807) :
    Calls Try.prog 29 #[.agg #[.int .i64 f0, .slice A1 n1 c1, .slice A2 n2 c2], .int .i64 left] w fun z w' => z = .returned (.int .i64 r) ∧ Below w.heap.size w w' := by
  refine (szTagO_any f0 A1 n1 c1 v1 x1 A2 n2 c2 x2 left w h1 r1 h2 (by omega) (by omega) u1 l1 u2).mono ?_
  rintro z w' ⟨⟨q, rfl, hq⟩, hb⟩
  unfold SzOut at hq
  obtain rfl : q = (r : Int) := by omega
  exact ⟨rfl, hb⟩
theorem szTagO_not (f0 : Int) (A1 : Option Addr) (n1 c1 : Nat) (v1 : List Value) (x1 : List (List Int)) (A2 : Option Addr) (n2 c2 : Nat) (x2 : List Int) (left : Nat) (w : World) (h1 : Arg w A1 n1 v1) (r1 : Ins 1 oneI w v1 x1) (h2 : Arg w A2 n2 (x2.map (Value.int .i64))) (hr : left < (n1 + sumLen x1) + (n2)) (hl1 : left ≤ 1048576) (u1 : n1 ≤ 9223372036854775807) (l1 : ∀ t ∈ x1, t.length ≤ 9223372036854775807) (u2 : n2 ≤ 9223372036854775807) :
    Calls Try.prog 29 #[.agg #[.int .i64 f0, .slice A1 n1 c1, .slice A2 n2 c2], .int .i64 left] w fun z w' => z = .returned (.int .i64 (-1)) ∧ Below w.heap.size w w' := by
  refine (szTagO_any f0 A1 n1 c1 v1 x1 A2 n2 c2 x2 left w h1 r1 h2 (by omega) (by omega) u1 l1 u2).mono ?_
  rintro z w' ⟨⟨q, rfl, hq⟩, hb⟩
  unfold SzOut at hq
  obtain rfl : q = -1 := by omega
  exact ⟨rfl, hb⟩

set_option maxRecDepth 100000 in
set_option maxHeartbeats 1000000 in
theorem eqTagO_same (f0 : Int) (A1 A1b : Option Addr) (n1 c1 c1b : Nat) (v1 v1b : List Value) (x1 : List (List Int)) (A2 A2b : Option Addr) (n2 c2 c2b : Nat) (x2 : List Int) (w : World) (h1 : Arg w A1 n1 v1) (r1 : Ins 1 oneI w v1 x1) (h1b : Arg w A1b n1 v1b) (r1b : Ins 1 oneI w v1b x1) (h2 : Arg w A2 n2 (x2.map (Value.int .i64))) (h2b : Arg w A2b n2 (x2.map (Value.int .i64))) (s1 : n1 ≤ 4194304) (t1 : sumLen x1 ≤ 4194304) (s2 : n2 ≤ 4194304) :
    Calls Try.prog 34 #[.agg #[.int .i64 f0, .slice A1 n1 c1, .slice A2 n2 c2], .agg #[.int .i64 f0, .slice A1b n1 c1b, .slice A2b n2 c2b]] w fun z w' => z = .returned (.bool true) ∧ Below w.heap.size w w' := by
  obtain ⟨w0, HW0, B0, hx0, y0⟩ := al2 w (.cells #[.int .i64 f0, .slice A1 n1 c1, .slice A2 n2 c2] 61) (.cells #[.int .i64 f0, .slice A1b n1 c1b, .slice A2b n2 c2b] 61)
  have E1 := fun W hA hu hB hv => eqInt64SS_any A1 A1b n1 n1 c1 c1b v1 v1b x1 x1 W hA hu hB hv s1 s1 t1 t1
  rw [decide_eq_true (rfl : x1 = x1)] at E1
  have HE1 := Lib.hid E1; clear E1
  have E2 := fun W hA hB => eqInt64S_any A2 A2b n2 n2 c2 c2b x2 x2 W hA hB s2 s2
  rw [decide_eq_true (rfl : x2 = x2)] at E2
  have HE2 := Lib.hid E2; clear E2
  go_enter Try.func34, Try.ntmps34
  have lx0 : w0.cell? ⟨w.heap.size, 0, none⟩ = some (.int .i64 f0) := by rw [cell_of_heap hx0]; rfl
  have ly0 : w0.cell? ⟨w.heap.size + 1, 0, none⟩ = some (.int .i64 f0) := by rw [cell_of_heap y0]; rfl
  have lx1 : w0.cell? ⟨w.heap.size, 1, none⟩ = some (.slice A1 n1 c1) := by rw [cell_of_heap hx0]; rfl
  have ly1 : w0.cell? ⟨w.heap.size + 1, 1, none⟩ = some (.slice A1b n1 c1b) := by rw [cell_of_heap y0]; rfl
  go_wp2_with fail
  rw [← HW0.out]
  refine (HE1.out _ (h1.below B0) (r1.below B0) (h1b.below B0) (r1b.below B0)).mono ?_
  rintro e w1 ⟨rfl, b1⟩
  have B1 := below_step B0 b1
  have hx1 := (b1.block _ (heap_lt hx0)).trans hx0
  have y1 := (b1.block _ (heap_lt y0)).trans y0
  clear lx0 ly0
  clear lx1 ly1
  have lx2 : w1.cell? ⟨w.heap.size, 2, none⟩ = some (.slice A2 n2 c2) := by rw [cell_of_heap hx1]; rfl
  have ly2 : w1.cell? ⟨w.heap.size + 1, 2, none⟩ = some (.slice A2b n2 c2b) := by rw [cell_of_heap y1]; rfl
  go_wp2_with fail
  refine (HE2.out _ (h2.below B1) (h2b.below B1)).mono ?_
  rintro e w2 ⟨rfl, hq⟩
  have b2 := quiet_q_belowTag hq
  clear hq
  have B2 := below_step B1 b2
  have hx2 := (b2.block _ (heap_lt hx1)).trans hx1
  have y2 := (b2.block _ (heap_lt y1)).trans y1
  clear lx2 ly2
  go_wp2_with fail
  go_ret
  exact ⟨rfl, B2⟩

set_option maxRecDepth 100000 in
set_option maxHeartbeats 1000000 in
theorem markTagO_any (f0 : Int) (g1 e1 n1 c1 : Nat) (us1 : List Value) (x1 : List (List Int)) (g2 e2 n2 c2 : Nat) (y2 : List Value) (k1 : Nat) (k : Int) (w : World) (h1 : Held g1 e1 (Grid g1 e1 25 1 (.slice (some ⟨g1, 0, none⟩) n1 c1) n1 us1 2 1 us1 (itsOf oneI x1)) w) (h2 : Held g2 e2 (Flat g2 e2 2 1 (.slice (some ⟨g2, 0, none⟩) n2 c2) n2 y2) w) (o2 : e1 ≤ g2) (ge1 : g1 ≤ e1) (ge2 : g2 ≤ e2) (hk1 : cellsIn 1 (itsOf oneI x1) = k1) (hb1 : k1 ≤ 8388608) (ht1 : ∀ it ∈ itsOf oneI x1, it.1 ≤ 4194304) (hkb0 : 0 ≤ k) (hkb1 : k ≤ 1073741824) (s1 : n1 ≤ 4194304) (s2 : n2 ≤ 4194304) :
    Calls Try.prog 35 #[.agg #[.int .i64 f0, .slice (some ⟨g1, 0, none⟩) n1 c1, .slice (some ⟨g2, 0, none⟩) n2 c2], .int .i64 k] w fun z w' => z = .returned (.int .i64 (k + (k1 : Int) + (n2 : Int))) ∧ Held g1 e1 (Grid g1 e1 25 1 (.slice (some ⟨g1, 0, none⟩) n1 c1) n1 us1 2 1 us1 (mks mkInt64S 1 (k) (itsOf oneI x1))) w' ∧ Held g2 e2 (Flat g2 e2 2 1 (.slice (some ⟨g2, 0, none⟩) n2 c2) n2 (marks mkInt64S (k + (k1 : Int)) n2)) w' ∧ Touch g1 e2 w w' := by
  obtain ⟨w0, HW0, B0, hx0⟩ := al1 w (.cells #[.int .i64 f0, .slice (some ⟨g1, 0, none⟩) n1 c1, .slice (some ⟨g2, 0, none⟩) n2 c2] 61)
  have T0 : Touch g1 e2 w w0 := Touch.of_below B0
  have H1 := h1.below B0; have le1 := h1.le
  have H2 := h2.below B0; have le2 := h2.le
  go_enter Try.func35, Try.ntmps35
  have lx1 : w0.cell? ⟨w.heap.size, 1, none⟩ = some (.slice (some ⟨g1, 0, none⟩) n1 c1) := by rw [cell_of_heap hx0]; rfl
  go_wp2_with fail
  rw [← HW0.out]
  refine (markInt64SS_is _ _ _ _ _ _ (k) k1 _ H1.is hk1 (by omega) (by omega) (by omega) ht1).mono ?_
  rintro z w1 ⟨rfl, o9, t9⟩
  have N1 := Grid.turn H1 o9 t9
  clear o9
  have H2q0 := H2.far t9 (.inr (by omega))
  have hx1 := (t9.block _ (heap_lt hx0) (.inr (by omega))).trans hx0
  have T1 := T0.trans (t9.mono (by omega) (by omega))
  clear t9 lx1
  have lx2 : w1.cell? ⟨w.heap.size, 2, none⟩ = some (.slice (some ⟨g2, 0, none⟩) n2 c2) := by rw [cell_of_heap hx1]; rfl
  go_wp2_with fail
  refine (markInt64S_any _ _ n2 (k + (k1 : Int)) _ _ H2q0.is.own (by omega) (by omega) (by omega)).mono ?_
  rintro z w2 ⟨rfl, o9, g9⟩
  obtain ⟨N2, t9⟩ := Flat.turn H2q0 o9 g9
  clear o9 g9
  have H1q1 := N1.far t9 (.inl (by omega))
  have hx2 := (t9.block _ (heap_lt hx1) (.inr (by omega))).trans hx1
  have T2 := T1.trans (t9.mono (by omega) (by omega))
  clear t9 lx2
  go_wp2_with fail
  go_ret
  exact ⟨rfl, H1q1, N2, T2⟩

end Go.Proofs.Ytcfkjigapnknnaa

/- The walk of the law FnExactRunTagByMarkov: it returns true, whatever the arguments, and writes nothing that was there. -/
namespace Go.Proofs.Ytcfkjigapnknnaa
open Go.RowKit
set_option linter.all false

set_option maxRecDepth 100000 in
set_option maxHeartbeats 8000000 in
theorem walkRunTagByMarkov (f0_0 : Int) (A0_1 : Option Addr) (n0_1 c0_1 : Nat) (v0_1 : List Value) (x0_1 : List (List Int)) (A0_2 : Option Addr) (n0_2 c0_2 : Nat) (x0_2 : List Int) (A1 : Option Addr) (n1 c1 : Nat) (x1 : List Int) (x2 : Int) (w : World) (w0_0 : Wf64 f0_0) (h0_1 : Arg w A0_1 n0_1 v0_1) (r0_1 : Ins 1 oneI w v0_1 x0_1) (m0_1 : n0_1 ≤ maxLen) (w0_1 : ∀ t ∈ x0_1, (∀ x ∈ t, Wf64 x) ∧ t.length ≤ maxLen) (h0_2 : Arg w A0_2 n0_2 (x0_2.map (Value.int .i64))) (m0_2 : n0_2 ≤ maxLen) (w0_2 : Wf64s x0_2) (h1 : Arg w A1 n1 (x1.map (Value.int .i64))) (m1 : n1 ≤ maxLen) (wq1 : Wf64s x1) (wq2 : Wf64 x2) :
    Calls Try.prog 7 #[.agg #[.int .i64 f0_0, .slice A0_1 n0_1 c0_1, .slice A0_2 n0_2 c0_2], .slice A1 n1 c1, .int .i64 x2] w fun e w' => e = .returned (.bool true) ∧ Below w.heap.size w w' := by
  unfold maxLen at m0_1
  unfold maxLen at m0_2
  unfold maxLen at m1
  obtain ⟨w0, HW0, B0, x0⟩ := al1 w (.cells #[.int .i64 f0_0, .slice A0_1 n0_1 c0_1, .slice A0_2 n0_2 c0_2] 56)
  have bx0_0 := box_held x0
  have szx0 := heap_lt x0
  clear x0
  by_cases s1 : n1 ≤ 1048576
  rotate_left
  · go_enter Try.func7, Try.ntmps7
    go_wp2_with fail
    go_ret
    exact ⟨rfl, by rw [← HW0.out]; exact B0⟩
  have H1 : Hid (x1.length = n1) := by have := h1.1; rw [List.length_map] at this; exact this
  have H0_1 : Hid (x0_1.length = n0_1) := by have := h0_1.1; have := r0_1.1; unfold Hid; omega
  have F0_1 : Hid (∀ t ∈ x0_1, t.length ≤ 9223372036854775807) := fun t ht => by have := (w0_1 t ht).2; unfold maxLen at this; exact this
  have H0_2 : Hid (x0_2.length = n0_2) := by have := h0_2.1; rw [List.length_map] at this; exact this
  by_cases z0 : (n0_1 + sumLen x0_1) + (n0_2) ≤ 1048576
  rotate_left
  · go_enter Try.func7, Try.ntmps7
    have lbx0_0 : w0.cell? ⟨w.heap.size, 0, none⟩ = some (.int .i64 f0_0) := by rw [cell_of_heap bx0_0.is]; rfl
    have lbx0_1 : w0.cell? ⟨w.heap.size, 1, none⟩ = some (.slice A0_1 n0_1 c0_1) := by rw [cell_of_heap bx0_0.is]; rfl
    have lbx0_2 : w0.cell? ⟨w.heap.size, 2, none⟩ = some (.slice A0_2 n0_2 c0_2) := by rw [cell_of_heap bx0_0.is]; rfl
    go_wp2_with fail
    rw [← HW0.out]
    refine (szTagO_not f0_0 A0_1 n0_1 c0_1 v0_1 x0_1 A0_2 n0_2 c0_2 x0_2 1048576 _ (h0_1.below B0) (r0_1.below B0) (h0_2.below B0) (by omega) (by omega) (by omega) F0_1.out (by omega)).mono ?_
    rintro e w1 ⟨rfl, b1⟩
    clear lbx0_0 lbx0_1 lbx0_2
    go_wp2_with fail
    go_ret
    exact ⟨rfl, below_step B0 b1⟩
  obtain ⟨r'0, R0⟩ : ∃ r' : Nat, Hid (r' + ((n0_1 + sumLen x0_1) + (n0_2)) = 1048576) := ⟨1048576 - ((n0_1 + sumLen x0_1) + (n0_2)), by unfold Hid; omega⟩
  have q0 : r'0 ≤ 1048576 := by have := R0.out; omega
  have s0_1 : n0_1 ≤ 1048576 := by omega
  have t0_1 : sumLen x0_1 ≤ 1048576 := by omega
  obtain ⟨k0_1, K0_1⟩ : ∃ k : Nat, Hid (cellsIn 1 (itsOf oneI x0_1) = k) := ⟨_, rfl⟩
  have kb0_1 : k0_1 ≤ 1048576 := by have := K0_1.out; rw [cellsIn_its] at this; omega
  have I0_1 : Hid (∀ it ∈ itsOf oneI x0_1, it.1 ≤ 4194304) := its_bound (by omega)
  have TH0_1 := Lib.hid t0_1; clear t0_1
  have s0_2 : n0_2 ≤ 1048576 := by omega
  have Z0 := Lib.hid z0; clear z0
  go_enter Try.func7, Try.ntmps7
  have lbx0_0 : w0.cell? ⟨w.heap.size, 0, none⟩ = some (.int .i64 f0_0) := by rw [cell_of_heap bx0_0.is]; rfl
  have lbx0_1 : w0.cell? ⟨w.heap.size, 1, none⟩ = some (.slice A0_1 n0_1 c0_1) := by rw [cell_of_heap bx0_0.is]; rfl
  have lbx0_2 : w0.cell? ⟨w.heap.size, 2, none⟩ = some (.slice A0_2 n0_2 c0_2) := by rw [cell_of_heap bx0_0.is]; rfl
  go_wp2_with fail
  rw [← HW0.out]
  refine (szTagO_is f0_0 A0_1 n0_1 c0_1 v0_1 x0_1 A0_2 n0_2 c0_2 x0_2 1048576 r'0 _ (h0_1.below B0) (r0_1.below B0) (h0_2.below B0) R0.out (by omega) (by omega) F0_1.out (by omega)).mono ?_
  rintro e w1 ⟨rfl, b1⟩
  clear lbx0_0 lbx0_1 lbx0_2
  have B1 := below_step B0 b1
  have sz1 := b1.size
  have bx0_1 := bx0_0.below b1
  clear bx0_0
  have lbx0_0 : w1.cell? ⟨w.heap.size, 0, none⟩ = some (.int .i64 f0_0) := by rw [cell_of_heap bx0_1.is]; rfl
  have lbx0_1 : w1.cell? ⟨w.heap.size, 1, none⟩ = some (.slice A0_1 n0_1 c0_1) := by rw [cell_of_heap bx0_1.is]; rfl
  have lbx0_2 : w1.cell? ⟨w.heap.size, 2, none⟩ = some (.slice A0_2 n0_2 c0_2) := by rw [cell_of_heap bx0_1.is]; rfl
  go_wp2_with fail
  refine (toTagO_any f0_0 A0_1 n0_1 c0_1 v0_1 x0_1 A0_2 n0_2 c0_2 x0_2 _ (h0_1.below B1) (r0_1.below B1) (h0_2.below B1) s0_1 TH0_1.out s0_2).mono ?_
  rintro e w2 ⟨⟨ga0_1, ea0_1, usa0_1, ga0_2, ea0_2, rfl, loa0_1, gea0_1, loa0_2, gea0_2, lea0, pa0_1_2, pa0_2_2, aua0_1⟩, b2⟩
  clear lbx0_0 lbx0_1 lbx0_2
  have B2 := below_step B1 b2
  have sz2 := b2.size
  have bx0_2 := bx0_1.below b2
  clear bx0_1
  go_wp2_with fail
  refine (toInt64S_any A1 n1 c1 x1 _ (h1.below B2) s1).mono ?_
  rintro e w3 ⟨rfl, o3, b3⟩
  have B3 := below_step B2 b3
  have sz3 := b3.size
  have bx0_3 := bx0_2.below b3
  clear bx0_2
  have pa0_1_3 := pa0_1_2.below b3
  clear pa0_1_2
  have pa0_2_3 := pa0_2_2.below b3
  clear pa0_2_2
  have pa1_3 := flat_of_own o3
  clear o3
  go_wp2_with fail
  refine (specRunTagByMarkov_any f0_0 ga0_1 n0_1 n0_1 usa0_1 x0_1 ga0_2 n0_2 n0_2 x0_2 _ _ n1 n1 x1 x2 _ w0_0 (sl_of_own pa0_1_3.is.own) pa0_1_3.is.inn.srcs H0_1.out s0_1 (Nat.le_refl _) TH0_1.out aua0_1 (sl_of_own pa0_2_3.is.own) H0_2.out s0_2 (Nat.le_refl _) (sl_of_own pa1_3.is.own) H1.out s1 (Nat.le_refl _) wq1 wq2).mono ?_
  rintro e w4 ⟨vs0, rfl, os0, b4⟩
  have B4 := below_step B3 b4
  have sz4 := b4.size
  have bx0_4 := bx0_3.below b4
  clear bx0_3
  have pa0_1_4 := pa0_1_3.below b4
  clear pa0_1_3
  have pa0_2_4 := pa0_2_3.below b4
  clear pa0_2_3
  have pa1_4 := pa1_3.below b4
  clear pa1_3
  obtain ⟨As0, cs0, rfl⟩ := own_form os0
  have ps0_4 := flat_of_own os0
  clear os0
  clear pa0_1_4
  clear pa0_2_4
  clear pa1_4
  have hl0 := bndRunTagByMarkov0 f0_0 x0_1 x0_2 x1 x2 (by have := H0_1.out; omega) TH0_1.out (by have := H0_2.out; omega) (by have := H1.out; omega)
  have lbx0_0 : w4.cell? ⟨w.heap.size, 0, none⟩ = some (.int .i64 f0_0) := by rw [cell_of_heap bx0_4.is]; rfl
  have lbx0_1 : w4.cell? ⟨w.heap.size, 1, none⟩ = some (.slice A0_1 n0_1 c0_1) := by rw [cell_of_heap bx0_4.is]; rfl
  have lbx0_2 : w4.cell? ⟨w.heap.size, 2, none⟩ = some (.slice A0_2 n0_2 c0_2) := by rw [cell_of_heap bx0_4.is]; rfl
  go_wp2_with fail
  refine (toTagO_any f0_0 A0_1 n0_1 c0_1 v0_1 x0_1 A0_2 n0_2 c0_2 x0_2 _ (h0_1.below B4) (r0_1.below B4) (h0_2.below B4) s0_1 TH0_1.out s0_2).mono ?_
  rintro e w5 ⟨⟨gx0_1, ex0_1, usx0_1, gx0_2, ex0_2, rfl, lox0_1, gex0_1, lox0_2, gex0_2, lex0, px0_1_5, px0_2_5, aux0_1⟩, b5⟩
  clear lbx0_0 lbx0_1 lbx0_2
  have B5 := below_step B4 b5
  have sz5 := b5.size
  have bx0_5 := bx0_4.below b5
  clear bx0_4
  have ps0_5 := ps0_4.below b5
  clear ps0_4
  obtain ⟨w6, HW6, b6, y6⟩ := al1 w5 (.cells #[.int .i64 f0_0, .slice (some ⟨gx0_1, 0, none⟩) n0_1 n0_1, .slice (some ⟨gx0_2, 0, none⟩) n0_2 n0_2] 61)
  have B6 := below_step B5 b6
  have sz6 := b6.size
  have bx0_6 := bx0_5.below b6
  clear bx0_5
  have ps0_6 := ps0_5.below b6
  clear ps0_5
  have px0_1_6 := px0_1_5.below b6
  clear px0_1_5
  have px0_2_6 := px0_2_5.below b6
  clear px0_2_5
  have z0_6 := box_held y6
  have szy6 := heap_lt y6
  clear y6
  go_wp2_with fail
  rw [← HW6.out]
  refine (toInt64S_any A1 n1 c1 x1 _ (h1.below B6) s1).mono ?_
  rintro e w7 ⟨rfl, o7, b7⟩
  have B7 := below_step B6 b7
  have sz7 := b7.size
  have bx0_7 := bx0_6.below b7
  clear bx0_6
  have ps0_7 := ps0_6.below b7
  clear ps0_6
  have px0_1_7 := px0_1_6.below b7
  clear px0_1_6
  have px0_2_7 := px0_2_6.below b7
  clear px0_2_6
  have z0_7 := z0_6.below b7
  clear z0_6
  have px1_7 := flat_of_own o7
  clear o7
  have lz0_0 : w7.cell? ⟨w5.heap.size, 0, none⟩ = some (.int .i64 f0_0) := by rw [cell_of_heap z0_7.is]; rfl
  have lz0_1 : w7.cell? ⟨w5.heap.size, 1, none⟩ = some (.slice (some ⟨gx0_1, 0, none⟩) n0_1 n0_1) := by rw [cell_of_heap z0_7.is]; rfl
  have lz0_2 : w7.cell? ⟨w5.heap.size, 2, none⟩ = some (.slice (some ⟨gx0_2, 0, none⟩) n0_2 n0_2) := by rw [cell_of_heap z0_7.is]; rfl
  go_wp2_with fail
  refine (implRunTagByMarkov_any f0_0 gx0_1 n0_1 n0_1 usx0_1 x0_1 gx0_2 n0_2 n0_2 x0_2 _ _ n1 n1 x1 x2 _ w0_0 (sl_of_own px0_1_7.is.own) px0_1_7.is.inn.srcs H0_1.out s0_1 (Nat.le_refl _) TH0_1.out aux0_1 (sl_of_own px0_2_7.is.own) H0_2.out s0_2 (Nat.le_refl _) (sl_of_own px1_7.is.own) H1.out s1 (Nat.le_refl _) wq1 wq2).mono ?_
  rintro e w8 ⟨vg0, rfl, og0, b8⟩
  clear lz0_0 lz0_1 lz0_2
  have B8 := below_step B7 b8
  have sz8 := b8.size
  have bx0_8 := bx0_7.below b8
  clear bx0_7
  have ps0_8 := ps0_7.below b8
  clear ps0_7
  have px0_1_8 := px0_1_7.below b8
  clear px0_1_7
  have px0_2_8 := px0_2_7.below b8
  clear px0_2_7
  have z0_8 := z0_7.below b8
  clear z0_7
  have px1_8 := px1_7.below b8
  clear px1_7
  obtain ⟨Ag0, cg0, rfl⟩ := own_form og0
  have pg0_8 := flat_of_own og0
  clear og0
  go_wp2_with fail
  refine (eqInt64S_any _ _ _ _ _ _ _ _ _ (arg_of_own pg0_8.is.own) (arg_of_own ps0_8.is.own) (by omega) (by omega)).mono ?_
  rintro e w9 ⟨rfl, q9, hq⟩
  have b9 := quiet_below hq
  clear hq q9
  have B9 := below_step B8 b9
  have sz9 := b9.size
  have bx0_9 := bx0_8.below b9
  clear bx0_8
  have ps0_9 := ps0_8.below b9
  clear ps0_8
  have px0_1_9 := px0_1_8.below b9
  clear px0_1_8
  have px0_2_9 := px0_2_8.below b9
  clear px0_2_8
  have z0_9 := z0_8.below b9
  clear z0_8
  have px1_9 := px1_8.below b9
  clear px1_8
  have pg0_9 := pg0_8.below b9
  clear pg0_8
  have lz0_0 : w9.cell? ⟨w5.heap.size, 0, none⟩ = some (.int .i64 f0_0) := by rw [cell_of_heap z0_9.is]; rfl
  have lz0_1 : w9.cell? ⟨w5.heap.size, 1, none⟩ = some (.slice (some ⟨gx0_1, 0, none⟩) n0_1 n0_1) := by rw [cell_of_heap z0_9.is]; rfl
  have lz0_2 : w9.cell? ⟨w5.heap.size, 2, none⟩ = some (.slice (some ⟨gx0_2, 0, none⟩) n0_2 n0_2) := by rw [cell_of_heap z0_9.is]; rfl
  have lbx0_0 : w9.cell? ⟨w.heap.size, 0, none⟩ = some (.int .i64 f0_0) := by rw [cell_of_heap bx0_9.is]; rfl
  have lbx0_1 : w9.cell? ⟨w.heap.size, 1, none⟩ = some (.slice A0_1 n0_1 c0_1) := by rw [cell_of_heap bx0_9.is]; rfl
  have lbx0_2 : w9.cell? ⟨w.heap.size, 2, none⟩ = some (.slice A0_2 n0_2 c0_2) := by rw [cell_of_heap bx0_9.is]; rfl
  go_wp2_with fail
  go_region_held3 (fun W => W.cell? ⟨w5.heap.size, 0, none⟩ = some (.int .i64 f0_0) ∧ W.cell? ⟨w5.heap.size, 1, none⟩ = some (.slice (some ⟨gx0_1, 0, none⟩) n0_1 n0_1) ∧ W.cell? ⟨w5.heap.size, 2, none⟩ = some (.slice (some ⟨gx0_2, 0, none⟩) n0_2 n0_2) ∧ W.cell? ⟨w.heap.size, 0, none⟩ = some (.int .i64 f0_0) ∧ W.cell? ⟨w.heap.size, 1, none⟩ = some (.slice A0_1 n0_1 c0_1) ∧ W.cell? ⟨w.heap.size, 2, none⟩ = some (.slice A0_2 n0_2 c0_2)) (first | go_keep | exact ⟨r10_0, r10_1, r10_2, r10_3, r10_4, r10_5⟩ | exact ⟨s10_0, s10_1, s10_2, s10_3, s10_4, s10_5⟩)
    ((first
      | (go_at_call 31; refine (toTagO_any f0_0 A0_1 n0_1 c0_1 v0_1 x0_1 A0_2 n0_2 c0_2 x0_2 _ (h0_1.below (B9.drew)) (r0_1.below (B9.drew)) (h0_2.below (B9.drew)) s0_1 TH0_1.out s0_2).mono ?_; rintro e w10 ⟨⟨gt0_1, et0_1, ust0_1, gt0_2, et0_2, rfl, lot0_1, get0_1, lot0_2, get0_2, let0, pt0_1_10, pt0_2_10, aut0_1⟩, b10'⟩; have b10 := below_drew_at b10'; have r10_0 := cell_step (by exact lz0_0) b10; have r10_1 := cell_step (by exact lz0_1) b10; have r10_2 := cell_step (by exact lz0_2) b10; have r10_3 := cell_step (by exact lbx0_0) b10; have r10_4 := cell_step (by exact lbx0_1) b10; have r10_5 := cell_step (by exact lbx0_2) b10)
      | (go_at_call 34; refine (eqTagO_same f0_0 _ _ n0_1 _ _ _ _ x0_1 _ _ n0_2 _ _ x0_2 _ (arg_of_own ((px0_1_9.below b10).is.own)) ((px0_1_9.below b10).is.inn.ins) (arg_of_own pt0_1_10.is.own) pt0_1_10.is.inn.ins (arg_of_own ((px0_2_9.below b10).is.own)) (arg_of_own pt0_2_10.is.own) (by omega) (by have := TH0_1.out; omega) (by omega)).mono ?_; rintro e w11 ⟨rfl, b11⟩; have s10_0 := cell_step (by exact r10_0) b11; have s10_1 := cell_step (by exact r10_1) b11; have s10_2 := cell_step (by exact r10_2) b11; have s10_3 := cell_step (by exact r10_3) b11; have s10_4 := cell_step (by exact r10_4) b11; have s10_5 := cell_step (by exact r10_5) b11)))
  all_goals
    have b9 := below_step b10 b11
    clear r10_0 r10_1 r10_2 r10_3 r10_4 r10_5 s10_0 s10_1 s10_2 s10_3 s10_4 s10_5 pt0_1_10 pt0_2_10 b10' lz0_0 lz0_1 lz0_2 lbx0_0 lbx0_1 lbx0_2 lot0_1 get0_1 lot0_2 get0_2 let0
    have B11 := below_step B9 b9
    have sz11 := b9.size
    have bx0_11 := bx0_9.below b9
    clear bx0_9
    have ps0_11 := ps0_9.below b9
    clear ps0_9
    have px0_1_11 := px0_1_9.below b9
    clear px0_1_9
    have px0_2_11 := px0_2_9.below b9
    clear px0_2_9
    have z0_11 := z0_9.below b9
    clear z0_9
    have px1_11 := px1_9.below b9
    clear px1_9
    have pg0_11 := pg0_9.below b9
    clear pg0_9
    clear b9
    go_wp2_with fail
    refine (toInt64S_any A1 n1 c1 x1 _ (h1.below B11) s1).mono ?_
    rintro e w12 ⟨rfl, o12, b12⟩
    have B12 := below_step B11 b12
    have sz12 := b12.size
    have bx0_12 := bx0_11.below b12
    clear bx0_11
    have ps0_12 := ps0_11.below b12
    clear ps0_11
    have px0_1_12 := px0_1_11.below b12
    clear px0_1_11
    have px0_2_12 := px0_2_11.below b12
    clear px0_2_11
    have z0_12 := z0_11.below b12
    clear z0_11
    have px1_12 := px1_11.below b12
    clear px1_11
    have pg0_12 := pg0_11.below b12
    clear pg0_11
    have pt1_12 := flat_of_own o12
    clear o12
    go_wp2_with fail
    refine (eqInt64S_any _ _ _ _ _ _ _ _ _ (arg_of_own px1_12.is.own) (arg_of_own pt1_12.is.own) (by omega) (by omega)).mono ?_
    rintro e w13 ⟨rfl, q13, hq⟩
    have b13 := quiet_below hq
    clear hq q13
    have B13 := below_step B12 b13
    have sz13 := b13.size
    have bx0_13 := bx0_12.below b13
    clear bx0_12
    have ps0_13 := ps0_12.below b13
    clear ps0_12
    have px0_1_13 := px0_1_12.below b13
    clear px0_1_12
    have px0_2_13 := px0_2_12.below b13
    clear px0_2_12
    have z0_13 := z0_12.below b13
    clear z0_12
    have px1_13 := px1_12.below b13
    clear px1_12
    have pg0_13 := pg0_12.below b13
    clear pg0_12
    have pt1_13 := pt1_12.below b13
    clear pt1_12
    clear pt1_13
    have lz0_0 : w13.cell? ⟨w5.heap.size, 0, none⟩ = some (.int .i64 f0_0) := by rw [cell_of_heap z0_13.is]; rfl
    have lz0_1 : w13.cell? ⟨w5.heap.size, 1, none⟩ = some (.slice (some ⟨gx0_1, 0, none⟩) n0_1 n0_1) := by rw [cell_of_heap z0_13.is]; rfl
    have lz0_2 : w13.cell? ⟨w5.heap.size, 2, none⟩ = some (.slice (some ⟨gx0_2, 0, none⟩) n0_2 n0_2) := by rw [cell_of_heap z0_13.is]; rfl
    go_wp2_with fail
    refine (markTagO_any f0_0 gx0_1 ex0_1 n0_1 n0_1 usx0_1 x0_1 gx0_2 ex0_2 n0_2 n0_2 _ k0_1 _ _ px0_1_13 px0_2_13 lox0_2 gex0_1 gex0_2 K0_1.out (by omega) I0_1.out (by omega) (by omega) (by omega) (by omega)).mono ?_
    rintro e w14 ⟨rfl, px0_1_14, px0_2_14, tt14⟩
    clear px0_1_13 px0_2_13
    clear lz0_0 lz0_1 lz0_2
    have B14 := below_touch B13 tt14 (by have := B0.size;  omega)
    have sz14 := tt14.size
    have bx0_14 := bx0_13.far tt14 (.inl (by have := B0.size;  omega))
    clear bx0_13
    have ps0_14 := ps0_13.far tt14 (.inl (by have := B0.size;  omega))
    clear ps0_13
    have z0_14 := z0_13.far tt14 (.inr (by have := B0.size;  omega))
    clear z0_13
    have px1_14 := px1_13.far tt14 (.inr (by have := B0.size;  omega))
    clear px1_13
    have pg0_14 := pg0_13.far tt14 (.inr (by have := B0.size;  omega))
    clear pg0_13
    go_wp2_with fail
    refine (markInt64S_any _ _ _ _ _ _ px1_14.is.own (by omega) (by omega) (by omega)).mono ?_
    rintro e w15 ⟨rfl, o15, g15⟩
    obtain ⟨px1_15, tt15⟩ := Flat.turn px1_14 o15 g15
    clear o15 g15 px1_14
    have B15 := below_touch B14 tt15 (by have := B0.size;  omega)
    have sz15 := tt15.size
    have bx0_15 := bx0_14.far tt15 (.inl (by have := B0.size;  omega))
    clear bx0_14
    have ps0_15 := ps0_14.far tt15 (.inl (by have := B0.size;  omega))
    clear ps0_14
    have px0_1_15 := px0_1_14.far tt15 (.inl (by have := B0.size;  omega))
    clear px0_1_14
    have px0_2_15 := px0_2_14.far tt15 (.inl (by have := B0.size;  omega))
    clear px0_2_14
    have z0_15 := z0_14.far tt15 (.inl (by have := B0.size;  omega))
    clear z0_14
    have pg0_15 := pg0_14.far tt15 (.inr (by have := B0.size;  omega))
    clear pg0_14
    clear px0_1_15
    clear px0_2_15
    clear z0_15
    clear px1_15
    go_wp2_with fail
    refine (eqInt64S_any _ _ _ _ _ _ _ _ _ (arg_of_own pg0_15.is.own) (arg_of_own ps0_15.is.own) (by omega) (by omega)).mono ?_
    rintro e w16 ⟨rfl, q16, hq⟩
    have b16 := quiet_below hq
    clear hq q16
    have B16 := below_step B15 b16
    have sz16 := b16.size
    have bx0_16 := bx0_15.below b16
    clear bx0_15
    have ps0_16 := ps0_15.below b16
    clear ps0_15
    have pg0_16 := pg0_15.below b16
    clear pg0_15
    go_wp2_with fail
    refine (markInt64S_any _ _ _ _ _ _ pg0_16.is.own (by omega) (by omega) (by omega)).mono ?_
    rintro e w17 ⟨rfl, o17, g17⟩
    obtain ⟨pg0_17, tt17⟩ := Flat.turn pg0_16 o17 g17
    clear o17 g17 pg0_16
    have B17 := below_touch B16 tt17 (by have := B0.size;  omega)
    have sz17 := tt17.size
    have bx0_17 := bx0_16.far tt17 (.inl (by have := B0.size;  omega))
    clear bx0_16
    have ps0_17 := ps0_16.far tt17 (.inl (by have := B0.size;  omega))
    clear ps0_16
    go_wp2_with fail
    refine (heldInt64S_any _ _ _ _ _ (arg_of_own pg0_17.is.own) (by omega) (by omega) (by omega)).mono ?_
    rintro e w' ⟨rfl, rfl⟩
    have lbx0_0 : w17.cell? ⟨w.heap.size, 0, none⟩ = some (.int .i64 f0_0) := by rw [cell_of_heap bx0_17.is]; rfl
    have lbx0_1 : w17.cell? ⟨w.heap.size, 1, none⟩ = some (.slice A0_1 n0_1 c0_1) := by rw [cell_of_heap bx0_17.is]; rfl
    have lbx0_2 : w17.cell? ⟨w.heap.size, 2, none⟩ = some (.slice A0_2 n0_2 c0_2) := by rw [cell_of_heap bx0_17.is]; rfl
    go_wp2_with fail
    refine (toTagO_any f0_0 A0_1 n0_1 c0_1 v0_1 x0_1 A0_2 n0_2 c0_2 x0_2 _ (h0_1.below B17) (r0_1.below B17) (h0_2.below B17) s0_1 TH0_1.out s0_2).mono ?_
    rintro e w18 ⟨⟨gy0_1, ey0_1, usy0_1, gy0_2, ey0_2, rfl, loy0_1, gey0_1, loy0_2, gey0_2, ley0, py0_1_18, py0_2_18, auy0_1⟩, b18⟩
    clear lbx0_0 lbx0_1 lbx0_2
    have B18 := below_step B17 b18
    have sz18 := b18.size
    have bx0_18 := bx0_17.below b18
    clear bx0_17
    have ps0_18 := ps0_17.below b18
    clear ps0_17
    have pg0_18 := pg0_17.below b18
    clear pg0_17
    go_wp2_with fail
    refine (toInt64S_any A1 n1 c1 x1 _ (h1.below B18) s1).mono ?_
    rintro e w19 ⟨rfl, o19, b19⟩
    have B19 := below_step B18 b19
    have sz19 := b19.size
    have bx0_19 := bx0_18.below b19
    clear bx0_18
    have ps0_19 := ps0_18.below b19
    clear ps0_18
    have pg0_19 := pg0_18.below b19
    clear pg0_18
    have py0_1_19 := py0_1_18.below b19
    clear py0_1_18
    have py0_2_19 := py0_2_18.below b19
    clear py0_2_18
    have py1_19 := flat_of_own o19
    clear o19
    go_wp2_with fail
    refine (implRunTagByMarkov_any f0_0 gy0_1 n0_1 n0_1 usy0_1 x0_1 gy0_2 n0_2 n0_2 x0_2 _ _ n1 n1 x1 x2 _ w0_0 (sl_of_own py0_1_19.is.own) py0_1_19.is.inn.srcs H0_1.out s0_1 (Nat.le_refl _) TH0_1.out auy0_1 (sl_of_own py0_2_19.is.own) H0_2.out s0_2 (Nat.le_refl _) (sl_of_own py1_19.is.own) H1.out s1 (Nat.le_refl _) wq1 wq2).mono ?_
    rintro e w20 ⟨vh0, rfl, oh0, b20⟩
    have B20 := below_step B19 b20
    have sz20 := b20.size
    have bx0_20 := bx0_19.below b20
    clear bx0_19
    have ps0_20 := ps0_19.below b20
    clear ps0_19
    have pg0_20 := pg0_19.below b20
    clear pg0_19
    have py0_1_20 := py0_1_19.below b20
    clear py0_1_19
    have py0_2_20 := py0_2_19.below b20
    clear py0_2_19
    have py1_20 := py1_19.below b20
    clear py1_19
    obtain ⟨Ah0, ch0, rfl⟩ := own_form oh0
    have ph0_20 := flat_of_own oh0
    clear oh0
    clear py0_1_20
    clear py0_2_20
    clear py1_20
    go_wp2_with fail
    refine (eqInt64S_any _ _ _ _ _ _ _ _ _ (arg_of_own ph0_20.is.own) (arg_of_own ps0_20.is.own) (by omega) (by omega)).mono ?_
    rintro e w21 ⟨rfl, q21, hq⟩
    have b21 := quiet_below hq
    clear hq q21
    have B21 := below_step B20 b21
    have sz21 := b21.size
    have bx0_21 := bx0_20.below b21
    clear bx0_20
    have ps0_21 := ps0_20.below b21
    clear ps0_20
    have pg0_21 := pg0_20.below b21
    clear pg0_20
    have ph0_21 := ph0_20.below b21
    clear ph0_20
    go_wp2_with fail
    refine (heldInt64S_any _ _ _ _ _ (arg_of_own pg0_21.is.own) (by omega) (by omega) (by omega)).mono ?_
    rintro e w' ⟨rfl, rfl⟩
    go_wp2_with fail
    go_ret
    exact ⟨rfl, B21⟩
end Go.Proofs.Ytcfkjigapnknnaa

/- How the laws' arguments are opened: a slice that came in reads as a list of its elements' cells. -/
namespace Go.Proofs.Ytcfkjigapnknnaa
open Go.ChangeShapes Go.WideShapes Go.ChangeAt Go.RowKit Go.Deep
open Go.ChangeMaps (open_string shut_string)

theorem own : ownKnob Try.prog.godebug = none := by kernel_rfl
theorem laidOut : laidOutB Try.prog = true := by kernel_rfl

theorem list_of_fun {α : Type} (n : Nat) (p : Nat → α → Prop) (h : ∀ i, i < n → ∃ x, p i x) : ∃ xs : List α, xs.length = n ∧ ∀ i x, xs[i]? = some x → p i x := by
  induction n with
  | zero => exact ⟨[], rfl, by simp⟩
  | succ n ih =>
    obtain ⟨xs, hl, hp⟩ := ih (fun i hi => h i (by omega))
    obtain ⟨x, hx⟩ := h n (by omega)
    refine ⟨xs ++ [x], by simp [hl], fun i y hy => ?_⟩
    rw [List.getElem?_append] at hy
    split at hy
    · exact hp i y hy
    · rw [List.getElem?_singleton] at hy
      split at hy
      · injection hy with hy
        subst hy
        obtain rfl : i = n := by omega
        exact hx
      · cases hy

theorem add_none {b off j : Nat} : (⟨b, off, none⟩ : Addr).add j = ⟨b, off + j, none⟩ := by
  unfold Addr.add
  split
  · rename_i h; subst h; rfl
  · rfl

section
variable {H : Type} {enc : TypeId × Value → H} {P : Program} {w : World} {base : Nat} {spare : Nat → Bool} {held : Bool}

/-- A slice of one-cell elements that came in. 'helem' says how an element's cell reads. -/
theorem arg_of_trod {α : Type} (f : α → Value) (ok : α → Prop) {t e : TypeId} {A : Option Addr} {n c : Nat} {d : DataW H} {ps : List MemPlace} (ht : P.underlying t = some (.slice e)) (hC : P.cellsOf e = 1)
    (helem : ∀ fuel cs x, DataW.trod enc P w base spare held fuel e cs = some x → ∃ a, cs = [f a] ∧ ok a)
    (h : DataW.Trod enc P w base spare held t (.slice A n c) d ps) : ∃ xs : List α, Arg w A n (xs.map f) ∧ (∀ x ∈ xs, ok x) ∧ n ≤ maxLen := by
  obtain ⟨fuel, hf⟩ := h
  rcases open_slice ht hf with ⟨h0, _⟩ | ⟨a, len, cap, m, n', D, Pl, hcs, _, hl, hm, hmm, _, hi⟩
  · simp [Value.cells] at h0
    obtain ⟨rfl, rfl, rfl⟩ := h0
    exact ⟨[], Arg.of_nil _ _, by simp, by simp [maxLen]⟩
  · simp [Value.cells] at hcs
    obtain ⟨rfl, rfl, rfl⟩ := hcs
    have hnm : n ≤ m := by rw [hmm]; split <;> omega
    have hex : ∀ i, i < n → ∃ x : α, w.cell? (a.add i) = some (f x) ∧ ok x := by
      intro i hin
      obtain ⟨cs', hc, ht'⟩ := hi i (by omega)
      rw [hC] at hc
      obtain ⟨x, rfl, hok⟩ := helem _ _ _ ht'
      obtain ⟨_, _, hat⟩ := World.cells?_some hc
      refine ⟨x, ?_, hok⟩
      have := hat 0 (by omega)
      simpa [Addr.add] using this
    obtain ⟨xs, hlen, hp⟩ := list_of_fun n _ hex
    refine ⟨xs, ⟨by simp [hlen], ?_⟩, fun x hx => by obtain ⟨i, hi⟩ := List.getElem?_of_mem hx; exact (hp i x hi).2, by omega⟩
    rcases Nat.eq_zero_or_pos n with h0 | h0
    · exact .inl h0
    · obtain ⟨b, off, spot⟩ := a
      obtain ⟨x0, hx0, _⟩ := hex 0 h0
      have hspot : spot = none := by simpa [Addr.add] using World.cell?_spot hx0
      subst hspot
      refine .inr ⟨b, off, rfl, World.block_lt_of_cell? w _ (by simpa [Addr.add] using hx0), fun j u hu => ?_⟩
      rw [List.getElem?_map] at hu
      obtain ⟨x, hx, rfl⟩ := Option.map_eq_some_iff.1 hu
      rw [← add_none]
      exact (hp j x hx).1

theorem arg_bools {t e : TypeId} {A : Option Addr} {n c : Nat} {d : DataW H} {ps : List MemPlace} (ht : P.underlying t = some (.slice e)) (hC : P.cellsOf e = 1) (he : P.underlying e = some .bool)
    (h : DataW.Trod enc P w base spare held t (.slice A n c) d ps) : ∃ xs : List Bool, Arg w A n (xs.map Value.bool) ∧ n ≤ maxLen := by
  obtain ⟨xs, h1, _, h3⟩ := arg_of_trod Value.bool (fun _ => True) ht hC (fun fuel cs x hx => by obtain ⟨b, hb, _⟩ := DataW.trod_bool he hx; exact ⟨b, hb, trivial⟩) h
  exact ⟨xs, h1, h3⟩

theorem arg_ints {k : IntKind} {t e : TypeId} {A : Option Addr} {n c : Nat} {d : DataW H} {ps : List MemPlace} (ht : P.underlying t = some (.slice e)) (hC : P.cellsOf e = 1) (he : P.underlying e = some (.int k))
    (h : DataW.Trod enc P w base spare held t (.slice A n c) d ps) : ∃ xs : List Int, Arg w A n (xs.map (Value.int k)) ∧ (∀ x ∈ xs, (Lit.int k x).wf = true) ∧ n ≤ maxLen :=
  arg_of_trod (Value.int k) (fun x => (Lit.int k x).wf = true) ht hC (fun fuel cs x hx => by obtain ⟨b, hb, _, hw⟩ := DataW.trod_int he hx; exact ⟨b, hb, hw⟩) h

theorem arg_strings {t e : TypeId} {A : Option Addr} {n c : Nat} {d : DataW H} {ps : List MemPlace} (ht : P.underlying t = some (.slice e)) (hC : P.cellsOf e = 1) (he : P.underlying e = some .string)
    (h : DataW.Trod enc P w base spare held t (.slice A n c) d ps) : ∃ xs : List ByteArray, Arg w A n (xs.map Value.string) ∧ (∀ x ∈ xs, x.size ≤ maxLen) ∧ n ≤ maxLen :=
  arg_of_trod Value.string (fun x => x.size ≤ maxLen) ht hC (fun fuel cs x hx => by obtain ⟨b, hb, _, hw⟩ := DataW.trod_string he hx; exact ⟨b, hb, hw⟩) h
end
end Go.Proofs.Ytcfkjigapnknnaa

/- How the laws' arguments that are slices of records of numbers are opened. -/
namespace Go.Proofs.Ytcfkjigapnknnaa
open Go.ChangeShapes Go.WideShapes Go.ChangeAt Go.RowKit Go.Deep
set_option linter.all false

section
variable {H : Type} {enc : TypeId × Value → H} {P : Program} {w : World} {base : Nat} {spare : Nat → Bool} {held : Bool}

theorem args_of_trod {α : Type} (f : α → List Value) (ok : α → Prop) {s : Nat} (hs : ∀ x, (f x).length = s) (hs0 : 0 < s) {t e : TypeId} {A : Option Addr} {n c : Nat} {d : DataW H} {ps : List MemPlace} (ht : P.underlying t = some (.slice e)) (hC : P.cellsOf e = s)
    (helem : ∀ fuel cs x, DataW.trod enc P w base spare held fuel e cs = some x → ∃ a, cs = f a ∧ ok a)
    (h : DataW.Trod enc P w base spare held t (.slice A n c) d ps) : ∃ xs : List α, Args s w A n (rows f xs) ∧ (∀ x ∈ xs, ok x) ∧ n ≤ maxLen := by
  obtain ⟨fuel, hf⟩ := h
  rcases open_slice ht hf with ⟨h0, _⟩ | ⟨a, len, cap, m, n', D, Pl, hcs, _, hl, hm, hmm, _, hi⟩
  · simp [Value.cells] at h0
    obtain ⟨rfl, rfl, rfl⟩ := h0
    exact ⟨[], Args.of_nil _ _ _, by simp, by simp [maxLen]⟩
  · simp [Value.cells] at hcs
    obtain ⟨rfl, rfl, rfl⟩ := hcs
    have hnm : n ≤ m := by rw [hmm]; split <;> omega
    have hex : ∀ i, i < n → ∃ x : α, (∀ j u, (f x)[j]? = some u → w.cell? (a.add (i * s + j)) = some u) ∧ ok x := by
      intro i hin
      obtain ⟨cs', hc, ht'⟩ := hi i (by omega)
      rw [hC] at hc
      obtain ⟨x, rfl, hok⟩ := helem _ _ _ ht'
      obtain ⟨_, _, hat⟩ := World.cells?_some hc
      refine ⟨x, fun j u hu => ?_, hok⟩
      have hj : j < s := by rw [← hs x]; exact (List.getElem?_eq_some_iff.1 hu).1
      have := hat j hj
      rw [← Go.Deep.add_add, this, hu]
    obtain ⟨xs, hlen, hp⟩ := list_of_fun n _ hex
    refine ⟨xs, ⟨by rw [rows_len hs, hlen], ?_⟩, fun x hx => by obtain ⟨i, hi⟩ := List.getElem?_of_mem hx; exact (hp i x hi).2, by omega⟩
    rcases Nat.eq_zero_or_pos n with h0 | h0
    · exact .inl h0
    · obtain ⟨b, off, spot⟩ := a
      obtain ⟨x0, hx0, _⟩ := hex 0 h0
      have hx0' := hx0 0 ((f x0)[0]'(by rw [hs]; exact hs0)) (List.getElem?_eq_getElem _)
      have hspot : spot = none := by simpa [Addr.add] using World.cell?_spot hx0'
      subst hspot
      refine .inr ⟨b, off, rfl, World.block_lt_of_cell? w _ (by simpa [Addr.add] using hx0'), fun j u hu => ?_⟩
      have hjl : j < n * s := by have := (List.getElem?_eq_some_iff.1 hu).1; rw [rows_len hs, hlen] at this; exact this
      have hq : j / s < n := Nat.div_lt_of_lt_mul (by rw [Nat.mul_comm]; exact hjl)
      have hm : j % s < s := Nat.mod_lt _ hs0
      have hjj : j = j / s * s + j % s := by rw [Nat.mul_comm]; exact (Nat.div_add_mod j s).symm
      have hx : xs[j / s]? = some (xs[j / s]'(by omega)) := List.getElem?_eq_getElem _
      rw [hjj, rows_at hs hx hm] at hu
      rw [hjj, ← add_none]
      exact (hp _ _ hx).1 _ _ hu

theorem one_of {n : Nat} {ty : TypeId} {v : Value} {y : DataW H × List MemPlace} (hu : P.underlying ty = some (.int .i64)) (h : DataW.trod enc P w base spare held n ty [v] = some y) : ∃ x : Int, v = .int .i64 x ∧ Wf64 x := by
  obtain ⟨b, hb, _, hw⟩ := DataW.trod_int hu h
  exact ⟨b, by simpa using hb, wf64_of hw⟩

theorem args_recs2 {t e : TypeId} {f0 f1 : Field} {A : Option Addr} {n c : Nat} {d : DataW H} {ps : List MemPlace} (ht : P.underlying t = some (.slice e)) (hC : P.cellsOf e = 2) (he : P.underlying e = some (.struct #[f0, f1])) (hone : oneCellFields P #[f0, f1] = true)
    (h0 : P.underlying f0.type = some (.int .i64)) (h1 : P.underlying f1.type = some (.int .i64)) (h : DataW.Trod enc P w base spare held t (.slice A n c) d ps) : ∃ xs : List R2, Args 2 w A n (rows R2.vs xs) ∧ (∀ x ∈ xs, x.wf) ∧ n ≤ maxLen := by
  refine args_of_trod R2.vs R2.wf R2.vs_len (by omega) ht hC (fun fuel cs x hx => ?_) h
  obtain ⟨xs, n', _, hx', hcl, hlen, hg⟩ := DataW.trod_struct he hx
  obtain ⟨o0, k0⟩ := hone_of hone 0 f0 rfl
  obtain ⟨o1, k1⟩ := hone_of hone 1 f1 rfl
  rw [hC] at hcl
  match cs, hcl with
  | [c0, c1], _ =>
    match xs, hlen with
    | [y0, y1], _ =>
      obtain ⟨a0, rfl, w0⟩ := one_of h0 (by simpa [o0, k0] using hg 0 f0 rfl)
      obtain ⟨a1, rfl, w1⟩ := one_of h1 (by simpa [o1, k1] using hg 1 f1 rfl)
      exact ⟨⟨a0, a1⟩, rfl, w0, w1⟩

theorem args_recs3 {t e : TypeId} {f0 f1 f2 : Field} {A : Option Addr} {n c : Nat} {d : DataW H} {ps : List MemPlace} (ht : P.underlying t = some (.slice e)) (hC : P.cellsOf e = 3) (he : P.underlying e = some (.struct #[f0, f1, f2])) (hone : oneCellFields P #[f0, f1, f2] = true)
    (h0 : P.underlying f0.type = some (.int .i64)) (h1 : P.underlying f1.type = some (.int .i64)) (h2 : P.underlying f2.type = some (.int .i64)) (h : DataW.Trod enc P w base spare held t (.slice A n c) d ps) : ∃ xs : List R3, Args 3 w A n (rows R3.vs xs) ∧ (∀ x ∈ xs, x.wf) ∧ n ≤ maxLen := by
  refine args_of_trod R3.vs R3.wf R3.vs_len (by omega) ht hC (fun fuel cs x hx => ?_) h
  obtain ⟨xs, n', _, hx', hcl, hlen, hg⟩ := DataW.trod_struct he hx
  obtain ⟨o0, k0⟩ := hone_of hone 0 f0 rfl
  obtain ⟨o1, k1⟩ := hone_of hone 1 f1 rfl
  obtain ⟨o2, k2⟩ := hone_of hone 2 f2 rfl
  rw [hC] at hcl
  match cs, hcl with
  | [c0, c1, c2], _ =>
    match xs, hlen with
    | [y0, y1, y2], _ =>
      obtain ⟨a0, rfl, w0⟩ := one_of h0 (by simpa [o0, k0] using hg 0 f0 rfl)
      obtain ⟨a1, rfl, w1⟩ := one_of h1 (by simpa [o1, k1] using hg 1 f1 rfl)
      obtain ⟨a2, rfl, w2⟩ := one_of h2 (by simpa [o2, k2] using hg 2 f2 rfl)
      exact ⟨⟨a0, a1, a2⟩, rfl, w0, w1, w2⟩

theorem args_recs4 {t e : TypeId} {f0 f1 f2 f3 : Field} {A : Option Addr} {n c : Nat} {d : DataW H} {ps : List MemPlace} (ht : P.underlying t = some (.slice e)) (hC : P.cellsOf e = 4) (he : P.underlying e = some (.struct #[f0, f1, f2, f3])) (hone : oneCellFields P #[f0, f1, f2, f3] = true)
    (h0 : P.underlying f0.type = some (.int .i64)) (h1 : P.underlying f1.type = some (.int .i64)) (h2 : P.underlying f2.type = some (.int .i64)) (h3 : P.underlying f3.type = some (.int .i64)) (h : DataW.Trod enc P w base spare held t (.slice A n c) d ps) : ∃ xs : List R4, Args 4 w A n (rows R4.vs xs) ∧ (∀ x ∈ xs, x.wf) ∧ n ≤ maxLen := by
  refine args_of_trod R4.vs R4.wf R4.vs_len (by omega) ht hC (fun fuel cs x hx => ?_) h
  obtain ⟨xs, n', _, hx', hcl, hlen, hg⟩ := DataW.trod_struct he hx
  obtain ⟨o0, k0⟩ := hone_of hone 0 f0 rfl
  obtain ⟨o1, k1⟩ := hone_of hone 1 f1 rfl
  obtain ⟨o2, k2⟩ := hone_of hone 2 f2 rfl
  obtain ⟨o3, k3⟩ := hone_of hone 3 f3 rfl
  rw [hC] at hcl
  match cs, hcl with
  | [c0, c1, c2, c3], _ =>
    match xs, hlen with
    | [y0, y1, y2, y3], _ =>
      obtain ⟨a0, rfl, w0⟩ := one_of h0 (by simpa [o0, k0] using hg 0 f0 rfl)
      obtain ⟨a1, rfl, w1⟩ := one_of h1 (by simpa [o1, k1] using hg 1 f1 rfl)
      obtain ⟨a2, rfl, w2⟩ := one_of h2 (by simpa [o2, k2] using hg 2 f2 rfl)
      obtain ⟨a3, rfl, w3⟩ := one_of h3 (by simpa [o3, k3] using hg 3 f3 rfl)
      exact ⟨⟨a0, a1, a2, a3⟩, rfl, w0, w1, w2, w3⟩
end
end Go.Proofs.Ytcfkjigapnknnaa

/- How the laws' arguments that are slices of slices are opened. -/
namespace Go.Proofs.Ytcfkjigapnknnaa
open Go.ChangeShapes Go.WideShapes Go.ChangeAt Go.RowKit Go.Deep
set_option linter.all false

section
variable {H : Type} {enc : TypeId × Value → H} {P : Program} {w : World} {base : Nat} {spare : Nat → Bool} {held : Bool}

/-- A slice in a cell. -/
theorem slice_cell {α : Type} (f : α → List Value) (ok : α → Prop) {s : Nat} (hs : ∀ x, (f x).length = s) (hs0 : 0 < s) {e e2 : TypeId} (he : P.underlying e = some (.slice e2)) (hC2 : P.cellsOf e2 = s)
    (helem : ∀ fuel cs x, DataW.trod enc P w base spare held fuel e2 cs = some x → ∃ a, cs = f a ∧ ok a) {fuel : Nat} {cs : List Value} {x : DataW H × List MemPlace} (h : DataW.trod enc P w base spare held fuel e cs = some x) :
    ∃ (A : Option Addr) (c : Nat) (t : List α), cs = [.slice A t.length c] ∧ Args s w A t.length (rows f t) ∧ (∀ x ∈ t, ok x) ∧ t.length ≤ maxLen := by
  rcases open_slice he h with ⟨rfl, _⟩ | ⟨a, len, cap, m, n', D, Pl, rfl, _, _, _, _, _, _⟩
  · exact ⟨none, 0, [], rfl, Args.of_nil _ _ _, by simp, by simp [maxLen]⟩
  · obtain ⟨t, ht, hok, hm⟩ := args_of_trod f ok hs hs0 he hC2 helem (A := some a) (n := len) (c := cap) (d := x.1) (ps := x.2) ⟨fuel, h⟩
    have hl : t.length = len := by have := ht.1; rw [rows_len hs] at this; exact Nat.eq_of_mul_eq_mul_right hs0 this
    subst hl
    exact ⟨some a, cap, t, rfl, ht, hok, hm⟩

theorem arg_nested {α : Type} (f : α → List Value) (ok : α → Prop) {s : Nat} (hs : ∀ x, (f x).length = s) (hs0 : 0 < s) {t e e2 : TypeId} {A : Option Addr} {n c : Nat} {d : DataW H} {ps : List MemPlace} (ht : P.underlying t = some (.slice e)) (hC : P.cellsOf e = 1) (he : P.underlying e = some (.slice e2)) (hC2 : P.cellsOf e2 = s)
    (helem : ∀ fuel cs x, DataW.trod enc P w base spare held fuel e2 cs = some x → ∃ a, cs = f a ∧ ok a)
    (h : DataW.Trod enc P w base spare held t (.slice A n c) d ps) : ∃ (vs : List Value) (ts : List (List α)), Arg w A n vs ∧ Ins s f w vs ts ∧ (∀ t ∈ ts, (∀ x ∈ t, ok x) ∧ t.length ≤ maxLen) ∧ n ≤ maxLen := by
  obtain ⟨ps2, h1, h2, h3⟩ := arg_of_trod (α := Value × List α) (fun p => p.1) (fun p => (∃ A c, p.1 = .slice A p.2.length c ∧ Args s w A p.2.length (rows f p.2)) ∧ (∀ x ∈ p.2, ok x) ∧ p.2.length ≤ maxLen) ht hC (fun fuel cs x hx => by
    obtain ⟨A, c, t, rfl, ha, hok, hm⟩ := slice_cell f ok hs hs0 he hC2 helem hx
    exact ⟨(.slice A t.length c, t), rfl, ⟨A, c, rfl, ha⟩, hok, hm⟩) h
  refine ⟨ps2.map (·.1), ps2.map (·.2), h1, ⟨by simp, fun j v t hv ht => ?_⟩, fun t ht => ?_, h3⟩
  · rw [List.getElem?_map] at hv ht
    obtain ⟨p, hp, rfl⟩ := Option.map_eq_some_iff.1 hv
    rw [hp] at ht
    simp at ht
    subst ht
    obtain ⟨⟨A, c, e1, ha⟩, _⟩ := h2 p (List.mem_of_getElem? hp)
    exact ⟨A, c, e1, ha⟩
  · obtain ⟨p, hp, rfl⟩ := List.mem_map.1 ht
    exact (h2 p hp).2

theorem elem_int {e : TypeId} (he : P.underlying e = some (.int .i64)) : ∀ fuel cs x, DataW.trod enc P w base spare held fuel e cs = some x → ∃ a, cs = oneI a ∧ Wf64 a := fun fuel cs x hx => by
  obtain ⟨b, hb, _, hw⟩ := DataW.trod_int he hx
  exact ⟨b, hb, wf64_of hw⟩
theorem elem_bool {e : TypeId} (he : P.underlying e = some .bool) : ∀ fuel cs x, DataW.trod enc P w base spare held fuel e cs = some x → ∃ a, cs = oneB a ∧ True := fun fuel cs x hx => by
  obtain ⟨b, hb, _⟩ := DataW.trod_bool he hx
  exact ⟨b, hb, trivial⟩
theorem elem_rec2 {e : TypeId} {f0 f1 : Field} (hC : P.cellsOf e = 2) (he : P.underlying e = some (.struct #[f0, f1])) (hone : oneCellFields P #[f0, f1] = true)
    (h0 : P.underlying f0.type = some (.int .i64)) (h1 : P.underlying f1.type = some (.int .i64)) : ∀ fuel cs x, DataW.trod enc P w base spare held fuel e cs = some x → ∃ a, cs = R2.vs a ∧ R2.wf a := fun fuel cs x hx => by
  obtain ⟨xs, n', _, hx', hcl, hlen, hg⟩ := DataW.trod_struct he hx
  obtain ⟨o0, k0⟩ := hone_of hone 0 f0 rfl
  obtain ⟨o1, k1⟩ := hone_of hone 1 f1 rfl
  rw [hC] at hcl
  match cs, hcl with
  | [c0, c1], _ =>
    match xs, hlen with
    | [y0, y1], _ =>
      obtain ⟨a0, rfl, w0⟩ := one_of h0 (by simpa [o0, k0] using hg 0 f0 rfl)
      obtain ⟨a1, rfl, w1⟩ := one_of h1 (by simpa [o1, k1] using hg 1 f1 rfl)
      exact ⟨⟨a0, a1⟩, rfl, w0, w1⟩
end
end Go.Proofs.Ytcfkjigapnknnaa

/- How the laws' arguments that are one record are opened. -/
namespace Go.Proofs.Ytcfkjigapnknnaa
open Go.ChangeShapes Go.WideShapes Go.ChangeAt Go.RowKit Go.Deep
set_option linter.all false

section
variable {H : Type} {enc : TypeId × Value → H} {P : Program} {w : World} {base : Nat} {spare : Nat → Bool} {held : Bool}
theorem elem_rec3 {e : TypeId} {f0 f1 f2 : Field} (hC : P.cellsOf e = 3) (he : P.underlying e = some (.struct #[f0, f1, f2])) (hone : oneCellFields P #[f0, f1, f2] = true)
    (h0 : P.underlying f0.type = some (.int .i64)) (h1 : P.underlying f1.type = some (.int .i64)) (h2 : P.underlying f2.type = some (.int .i64)) : ∀ fuel cs x, DataW.trod enc P w base spare held fuel e cs = some x → ∃ a, cs = R3.vs a ∧ R3.wf a := fun fuel cs x hx => by
  obtain ⟨xs, n', _, hx', hcl, hlen, hg⟩ := DataW.trod_struct he hx
  obtain ⟨o0, k0⟩ := hone_of hone 0 f0 rfl
  obtain ⟨o1, k1⟩ := hone_of hone 1 f1 rfl
  obtain ⟨o2, k2⟩ := hone_of hone 2 f2 rfl
  rw [hC] at hcl
  match cs, hcl with
  | [c0, c1, c2], _ =>
    match xs, hlen with
    | [y0, y1, y2], _ =>
      obtain ⟨a0, rfl, w0⟩ := one_of h0 (by simpa [o0, k0] using hg 0 f0 rfl)
      obtain ⟨a1, rfl, w1⟩ := one_of h1 (by simpa [o1, k1] using hg 1 f1 rfl)
      obtain ⟨a2, rfl, w2⟩ := one_of h2 (by simpa [o2, k2] using hg 2 f2 rfl)
      exact ⟨⟨a0, a1, a2⟩, rfl, w0, w1, w2⟩
/-- A slice of slices in a cell. -/
theorem nested_cell {α : Type} (f : α → List Value) (ok : α → Prop) {s : Nat} (hs : ∀ x, (f x).length = s) (hs0 : 0 < s) {t e e2 : TypeId} (ht : P.underlying t = some (.slice e)) (hC : P.cellsOf e = 1) (he : P.underlying e = some (.slice e2)) (hC2 : P.cellsOf e2 = s)
    (helem : ∀ fuel cs x, DataW.trod enc P w base spare held fuel e2 cs = some x → ∃ a, cs = f a ∧ ok a) {fuel : Nat} {cs : List Value} {x : DataW H × List MemPlace} (h : DataW.trod enc P w base spare held fuel t cs = some x) :
    ∃ (A : Option Addr) (n c : Nat) (vs : List Value) (ts : List (List α)), cs = [.slice A n c] ∧ Arg w A n vs ∧ Ins s f w vs ts ∧ (∀ t ∈ ts, (∀ x ∈ t, ok x) ∧ t.length ≤ maxLen) ∧ n ≤ maxLen := by
  rcases open_slice ht h with ⟨rfl, _⟩ | ⟨a, len, cap, m, n', D, Pl, rfl, _, _, _, _, _, _⟩
  · exact ⟨none, 0, 0, [], [], rfl, Arg.of_nil _ _, ⟨rfl, by intro j v t h1; simp at h1⟩, by simp, by simp [maxLen]⟩
  · obtain ⟨vs, ts, h1, h2, h3, h4⟩ := arg_nested f ok hs hs0 ht hC he hC2 helem (A := some a) (n := len) (c := cap) (d := x.1) (ps := x.2) ⟨fuel, h⟩
    exact ⟨some a, len, cap, vs, ts, rfl, h1, h2, h3, h4⟩
theorem oneTag {t e1 e1b e2 : TypeId} {f0 f1 f2 : Field} {v : Value} {d : DataW H} {ps : List MemPlace} (ht : P.underlying t = some (.struct #[f0, f1, f2])) (hC : P.cellsOf t = 3) (hone : oneCellFields P #[f0, f1, f2] = true) (h0 : P.underlying f0.type = some (.int .i64)) (h1 : P.underlying f1.type = some (.slice e1)) (hC1 : P.cellsOf e1 = 1) (g1 : P.underlying e1 = some (.slice e1b)) (hC1b : P.cellsOf e1b = 1) (el1 : ∀ fuel cs x, DataW.trod enc P w base spare held fuel e1b cs = some x → ∃ a : Int, cs = oneI a ∧ Wf64 a) (h2 : P.underlying f2.type = some (.slice e2)) (hC2 : P.cellsOf e2 = 1) (el2 : ∀ fuel cs x, DataW.trod enc P w base spare held fuel e2 cs = some x → ∃ a : Int, cs = oneI a ∧ Wf64 a) {r : Reach} {b0 : Nat} (hw : Value.okWide P w r b0 t v) (h : DataW.Trod enc P w base spare held t v d ps) :
    ∃ (a0 : Int) (A1 : Option Addr) (n1 c1 : Nat) (v1 : List Value) (x1 : List (List Int)) (A2 : Option Addr) (n2 c2 : Nat) (x2 : List Int), v = .agg #[.int .i64 a0, .slice A1 n1 c1, .slice A2 n2 c2] ∧ Wf64 a0 ∧ Arg w A1 n1 v1 ∧ Ins 1 oneI w v1 x1 ∧ n1 ≤ maxLen ∧ (∀ t ∈ x1, (∀ x ∈ t, Wf64 x) ∧ t.length ≤ maxLen) ∧ Arg w A2 n2 (x2.map (Value.int .i64)) ∧ n2 ≤ maxLen ∧ Wf64s x2 := by
  obtain ⟨cs, rfl, hsz⟩ := okWide_struct ht hw
  obtain ⟨fuel, hx⟩ := h
  obtain ⟨xs, n', _, hx', hcl, hlen, hg⟩ := DataW.trod_struct ht hx
  obtain ⟨o0, k0⟩ := hone_of hone 0 f0 rfl
  obtain ⟨o1, k1⟩ := hone_of hone 1 f1 rfl
  obtain ⟨o2, k2⟩ := hone_of hone 2 f2 rfl
  rw [hC] at hsz
  obtain ⟨l⟩ := cs
  match l, hsz with
  | [c0, c1, c2], _ =>
    match xs, hlen with
    | [y0, y1, y2], _ =>
      obtain ⟨a0, rfl, w0⟩ := one_of h0 (by simpa [o0, k0, Value.cells] using hg 0 f0 rfl)
      obtain ⟨A1, n1, q1, v1, x1, hb1, g11, g21, w1, l1⟩ := nested_cell oneI Wf64 (s := 1) (fun _ => rfl) (by omega) h1 hC1 g1 hC1b el1 (by simpa [o1, k1, Value.cells] using hg 1 f1 rfl)
      obtain rfl : c1 = .slice A1 n1 q1 := by simpa using hb1
      obtain ⟨A2, q2, x2, hb2, g12, w2, l2⟩ := slice_cell (s := 1) oneI Wf64 (fun _ => rfl) (by omega) h2 hC2 el2 (by simpa [o2, k2, Value.cells] using hg 2 f2 rfl)
      obtain rfl : c2 = .slice A2 x2.length q2 := by simpa using hb2
      exact ⟨a0, A1, n1, q1, v1, x1, A2, x2.length, q2, x2, rfl, w0, g11, g21, l1, w1, (by rw [← rows_oneI]; exact arg_args g12), l2, w2⟩
theorem oneMachine {t e2 : TypeId} {f0 f1 f2 : Field} {v : Value} {d : DataW H} {ps : List MemPlace} (ht : P.underlying t = some (.struct #[f0, f1, f2])) (hC : P.cellsOf t = 3) (hone : oneCellFields P #[f0, f1, f2] = true) (h0 : P.underlying f0.type = some (.int .i64)) (h1 : P.underlying f1.type = some (.int .i64)) (h2 : P.underlying f2.type = some (.slice e2)) (hC2 : P.cellsOf e2 = 3) (el2 : ∀ fuel cs x, DataW.trod enc P w base spare held fuel e2 cs = some x → ∃ a : R3, cs = R3.vs a ∧ R3.wf a) {r : Reach} {b0 : Nat} (hw : Value.okWide P w r b0 t v) (h : DataW.Trod enc P w base spare held t v d ps) :
    ∃ (a0 : Int) (a1 : Int) (A2 : Option Addr) (n2 c2 : Nat) (x2 : List R3), v = .agg #[.int .i64 a0, .int .i64 a1, .slice A2 n2 c2] ∧ Wf64 a0 ∧ Wf64 a1 ∧ Args 3 w A2 n2 (rows R3.vs x2) ∧ n2 ≤ maxLen ∧ (∀ x ∈ x2, x.wf) := by
  obtain ⟨cs, rfl, hsz⟩ := okWide_struct ht hw
  obtain ⟨fuel, hx⟩ := h
  obtain ⟨xs, n', _, hx', hcl, hlen, hg⟩ := DataW.trod_struct ht hx
  obtain ⟨o0, k0⟩ := hone_of hone 0 f0 rfl
  obtain ⟨o1, k1⟩ := hone_of hone 1 f1 rfl
  obtain ⟨o2, k2⟩ := hone_of hone 2 f2 rfl
  rw [hC] at hsz
  obtain ⟨l⟩ := cs
  match l, hsz with
  | [c0, c1, c2], _ =>
    match xs, hlen with
    | [y0, y1, y2], _ =>
      obtain ⟨a0, rfl, w0⟩ := one_of h0 (by simpa [o0, k0, Value.cells] using hg 0 f0 rfl)
      obtain ⟨a1, rfl, w1⟩ := one_of h1 (by simpa [o1, k1, Value.cells] using hg 1 f1 rfl)
      obtain ⟨A2, q2, x2, hb2, g12, w2, l2⟩ := slice_cell (s := 3) R3.vs R3.wf R3.vs_len (by omega) h2 hC2 el2 (by simpa [o2, k2, Value.cells] using hg 2 f2 rfl)
      obtain rfl : c2 = .slice A2 x2.length q2 := by simpa using hb2
      exact ⟨a0, a1, A2, x2.length, q2, x2, rfl, w0, w1, g12, l2, w2⟩
theorem oneConfig {t e1 e2 : TypeId} {f0 f1 f2 : Field} {v : Value} {d : DataW H} {ps : List MemPlace} (ht : P.underlying t = some (.struct #[f0, f1, f2])) (hC : P.cellsOf t = 3) (hone : oneCellFields P #[f0, f1, f2] = true) (h0 : P.underlying f0.type = some (.int .i64)) (h1 : P.underlying f1.type = some (.slice e1)) (hC1 : P.cellsOf e1 = 1) (el1 : ∀ fuel cs x, DataW.trod enc P w base spare held fuel e1 cs = some x → ∃ a : Int, cs = oneI a ∧ Wf64 a) (h2 : P.underlying f2.type = some (.slice e2)) (hC2 : P.cellsOf e2 = 1) (el2 : ∀ fuel cs x, DataW.trod enc P w base spare held fuel e2 cs = some x → ∃ a : Int, cs = oneI a ∧ Wf64 a) {r : Reach} {b0 : Nat} (hw : Value.okWide P w r b0 t v) (h : DataW.Trod enc P w base spare held t v d ps) :
    ∃ (a0 : Int) (A1 : Option Addr) (n1 c1 : Nat) (x1 : List Int) (A2 : Option Addr) (n2 c2 : Nat) (x2 : List Int), v = .agg #[.int .i64 a0, .slice A1 n1 c1, .slice A2 n2 c2] ∧ Wf64 a0 ∧ Arg w A1 n1 (x1.map (Value.int .i64)) ∧ n1 ≤ maxLen ∧ Wf64s x1 ∧ Arg w A2 n2 (x2.map (Value.int .i64)) ∧ n2 ≤ maxLen ∧ Wf64s x2 := by
  obtain ⟨cs, rfl, hsz⟩ := okWide_struct ht hw
  obtain ⟨fuel, hx⟩ := h
  obtain ⟨xs, n', _, hx', hcl, hlen, hg⟩ := DataW.trod_struct ht hx
  obtain ⟨o0, k0⟩ := hone_of hone 0 f0 rfl
  obtain ⟨o1, k1⟩ := hone_of hone 1 f1 rfl
  obtain ⟨o2, k2⟩ := hone_of hone 2 f2 rfl
  rw [hC] at hsz
  obtain ⟨l⟩ := cs
  match l, hsz with
  | [c0, c1, c2], _ =>
    match xs, hlen with
    | [y0, y1, y2], _ =>
      obtain ⟨a0, rfl, w0⟩ := one_of h0 (by simpa [o0, k0, Value.cells] using hg 0 f0 rfl)
      obtain ⟨A1, q1, x1, hb1, g11, w1, l1⟩ := slice_cell (s := 1) oneI Wf64 (fun _ => rfl) (by omega) h1 hC1 el1 (by simpa [o1, k1, Value.cells] using hg 1 f1 rfl)
      obtain rfl : c1 = .slice A1 x1.length q1 := by simpa using hb1
      obtain ⟨A2, q2, x2, hb2, g12, w2, l2⟩ := slice_cell (s := 1) oneI Wf64 (fun _ => rfl) (by omega) h2 hC2 el2 (by simpa [o2, k2, Value.cells] using hg 2 f2 rfl)
      obtain rfl : c2 = .slice A2 x2.length q2 := by simpa using hb2
      exact ⟨a0, A1, x1.length, q1, x1, A2, x2.length, q2, x2, rfl, w0, (by rw [← rows_oneI]; exact arg_args g11), l1, w1, (by rw [← rows_oneI]; exact arg_args g12), l2, w2⟩
end
end Go.Proofs.Ytcfkjigapnknnaa

/- The law FnExactRunTagByMarkov returns true for every input, and each argument reads afterwards as before. No conditions. -/
namespace Go.Proofs.Ytcfkjigapnknnaa.lawRunTagByMarkov
open Go.ChangeShapes Go.WideShapes Go.ChangeAt Go.RowKit Go.Deep

set_option maxRecDepth 100000 in
theorem lifted (os : Os) (started : os.Started) (H : Type) (enc : TypeId × Value → H) :
    ReturnsInHanded {} Try.checked os 7 .any (Rows.fnExactRunTagByMarkovSpec.pre6 enc Try.prog Try.f7 Rows.fnExactRunTagByMarkovRow.domain false) (Rows.fnExactRunTagByMarkovSpec.post enc Try.prog Try.f7 false true false false) := by
  refine returnsInHanded_of_change (C := Try.checked) own started (by kernel_rfl) Try.func7
    (ChangeSpec.witness6 (enc := enc) (C := Try.checked) false ⟨#[], #[.agg #[.int .i64 0, .slice none 0 0, .slice none 0 0], .slice none 0 0, .int .i64 0], []⟩ 8 (by kernel_rfl) (by kernel_rfl) (by kernel_rfl) (by kernel_rfl)) ?_
  intro W base args ds gs before hval0 hW hcnd _
  have hval : ∀ (j : Nat) t v, Try.f7.params[j]? = some t → args[j]? = some v → Value.okWide Try.prog W .any base t v := hval0
  have hW' := hW
  obtain ⟨p, q, hA0, hV, rfl, hfz, hnd⟩ := hW
  have hA : DataW.TrodAll enc Try.prog W 0 (fun _ => true) true Try.f7.params.toList args.toList ds p := hA0
  rw [Try.params7] at hA hval
  obtain ⟨v0, vs0, d0, ds0, p0, q0, hargs, rfl, rfl, h0, r0⟩ := trodAll_cons hA
  obtain ⟨v1, vs1, d1, ds1, p1, q1, rfl, rfl, rfl, h1, r1⟩ := trodAll_cons r0
  obtain ⟨v2, vs2, d2, ds2, p2, q2, rfl, rfl, rfl, h2, r2⟩ := trodAll_cons r1
  obtain ⟨rfl, rfl, rfl⟩ := trodAll_nil r2
  obtain rfl : args = #[v0, v1, v2] := by cases args; simp_all
  obtain ⟨rfl, rfl⟩ := trodVars_none hV
  have k0 := h0
  have lt0 : ∀ x ∈ p0, x.block < W.heap.size := by obtain ⟨m, hm⟩ := k0; exact DataW.trod_lt m _ _ _ hm
  obtain ⟨f0_0, A0_1, n0_1, c0_1, y0_1, z0_1, A0_2, n0_2, c0_2, z0_2, hv0, u0_0, g0_1, i0_1, m0_1, u0_1, g0_2, m0_2, u0_2⟩ := oneTag Try.underlying56 (by kernel_rfl) (by kernel_rfl) Try.underlying2 Try.underlying45 (by kernel_rfl) Try.underlying25 (by kernel_rfl) (elem_int Try.underlying2) Try.underlying25 (by kernel_rfl) (elem_int Try.underlying2) (hval 0 56 v0 rfl rfl) h0
  subst hv0
  obtain ⟨a1, len1, cap1, rfl⟩ := okWide_slice Try.underlying25 (hval 1 25 v1 rfl rfl)
  have k1 := h1
  have lt1 : ∀ x ∈ p1, x.block < W.heap.size := by obtain ⟨m, hm⟩ := k1; exact DataW.trod_lt m _ _ _ hm
  obtain ⟨z1, g1, f1, m1⟩ := arg_ints Try.underlying25 (by kernel_rfl) Try.underlying2 h1
  obtain ⟨z2, rfl, rfl, rfl, f2⟩ := open_int Try.underlying2 (hval 2 2 v2 rfl rfl) h2
  clear hA0 hval0
  refine (walkRunTagByMarkov f0_0 A0_1 n0_1 c0_1 y0_1 z0_1 A0_2 n0_2 c0_2 z0_2 a1 len1 cap1 z1 z2 W u0_0 g0_1 i0_1 m0_1 u0_1 g0_2 m0_2 u0_2 g1 m1 (wf64s_of f1) (wf64_of f2)).mono fun e W' ⟨he, bel⟩ => ?_
  subst he
  exact ⟨_, rfl, _, _, _, [], _, [], hW', trodAll_mk1 (shut_bool Try.underlying4 _), (trodAll_cons_mk (Below.trod laidOut (by kernel_rfl) (of_decide_eq_true (by kernel_rfl)) k0 bel lt0) (trodAll_cons_mk (Below.trod laidOut (by kernel_rfl) (of_decide_eq_true (by kernel_rfl)) k1 bel lt1) (trodAll_cons_mk (shut_int Try.underlying2 f2) trodAll_mk0))), rfl, bel.frame _, fun h => by cases h⟩

theorem factA : Try.pinned.checked.prog.funcNamed Rows.fnExactRunTagByMarkovRow.func = some 7 := by kernel_rfl
theorem factB0 : (Rows.fnExactRunTagByMarkovRow.wf (OpenSpec.ofChange Rows.fnExactRunTagByMarkovSpec)) = true := by kernel_rfl
theorem factB3 : (Try.f7.params.all (Try.pinned.checked.prog.readableRec ·)) = true := by kernel_rfl
theorem factB4 : (namedTie Try.pinned.checked.prog Rows.fnExactRunTagByMarkovRow.named Rows.fnExactRunTagByMarkovSpec.vars) = true := by kernel_rfl
theorem factB5 : (Rows.fnExactRunTagByMarkovRow.stops == []) = true := by kernel_rfl
theorem factB7 : (Rows.fnExactRunTagByMarkovRow.knobs == []) = true := by kernel_rfl
theorem factB9 : (Rows.fnExactRunTagByMarkovRow.inPlace == Try.pinned.checked.prog.inPlace 7) = true := by kernel_rfl
theorem factB10 : (Rows.fnExactRunTagByMarkovRow.unfollowed == Try.pinned.checked.prog.unfollowed 7) = true := by kernel_rfl
theorem factB11 : (Rows.fnExactRunTagByMarkovRow.recurses == Try.pinned.checked.prog.recurses 7) = true := by kernel_rfl
theorem factB12 : (Rows.fnExactRunTagByMarkovRow.named == Try.pinned.checked.prog.varsNamed 7) = true := by kernel_rfl
theorem factB13 : (Rows.fnExactRunTagByMarkovRow.maps == (Try.f7.params.toList ++ Rows.fnExactRunTagByMarkovSpec.plain.varTypes Try.pinned.checked.prog).any (Try.pinned.checked.prog.mapsRec ·)) = true := by kernel_rfl
theorem factB14 : (Rows.fnExactRunTagByMarkovRow.ifaces == (Try.f7.params.toList ++ Rows.fnExactRunTagByMarkovSpec.plain.varTypes Try.pinned.checked.prog).any (Try.pinned.checked.prog.ifacesRec ·)) = true := by kernel_rfl
theorem factB15 : (Rows.fnExactRunTagByMarkovRow.mapsOut == Try.pinned.checked.prog.mapsAmong Try.f7.resultTypes.toList) = true := by kernel_rfl
theorem factB16 : (Rows.fnExactRunTagByMarkovRow.loops == (Try.f7.params.toList ++ Rows.fnExactRunTagByMarkovSpec.plain.varTypes Try.pinned.checked.prog).any (Try.pinned.checked.prog.loopsFrom ·)) = true := by kernel_rfl
theorem factB17 : (Rows.fnExactRunTagByMarkovRow.wideKeys == (Try.f7.params.toList ++ Rows.fnExactRunTagByMarkovSpec.plain.varTypes Try.pinned.checked.prog ++ Try.f7.resultTypes.toList).any (Try.pinned.checked.prog.wideKeysFrom ·)) = true := by kernel_rfl
theorem factB18 : (Rows.fnExactRunTagByMarkovSpec.vars.all (Try.pinned.checked.prog.varReadable ·)) = true := by kernel_rfl
theorem factB19 : (Try.f7.resultTypes.all (fun t => Try.pinned.checked.prog.readableRec t && decide (t < Try.pinned.checked.prog.types.size))) = true := by kernel_rfl
theorem factB20 : (Rows.fnExactRunTagByMarkovRow.ifacesOut == Try.f7.resultTypes.toList.any (Try.pinned.checked.prog.ifacesRec ·)) = true := by kernel_rfl
theorem factB21 : (Rows.fnExactRunTagByMarkovRow.loopsOut == Try.f7.resultTypes.toList.any (Try.pinned.checked.prog.loopsFrom ·)) = true := by kernel_rfl
theorem factB23 : (Rows.fnExactRunTagByMarkovRow.shortTexts.isNone) = true := by kernel_rfl
theorem factB28 : (Rows.fnExactRunTagByMarkovRow.kinds == (if Rows.fnExactRunTagByMarkovRow.domain.isEmpty then [] else Try.f7.params.toList.map fun t => match Try.pinned.checked.prog.underlying t with | some (.int k) => some k | _ => none)) = true := by kernel_rfl
theorem factB29 : (Rows.fnExactRunTagByMarkovRow.pinned == Rows.fnExactRunTagByMarkovRow.pinnedBy) = true := by kernel_rfl
theorem factB30 : (Rows.fnExactRunTagByMarkovRow.veiled == (Try.f7.params.toList ++ Rows.fnExactRunTagByMarkovSpec.plain.varTypes Try.pinned.checked.prog ++ Try.f7.resultTypes.toList).any (Try.pinned.checked.prog.veiledRec ·)) = true := by kernel_rfl
theorem factB31 : (Rows.fnExactRunTagByMarkovRow.veiledFits Try.pinned.checked.prog Try.f7.params.toList (Try.f7.params.toList ++ Rows.fnExactRunTagByMarkovSpec.plain.varTypes Try.pinned.checked.prog ++ Try.f7.resultTypes.toList)) = true := by kernel_rfl
set_option maxRecDepth 100000 in
theorem factB : joinedFacts Try.pinned.checked.prog 7 Try.f7 Rows.fnExactRunTagByMarkovSpec Rows.fnExactRunTagByMarkovRow = true := by
  unfold joinedFacts
  exact (pf.band (pf.band (pf.band (pf.band (pf.band (pf.band (pf.band (pf.band (pf.band (pf.band (pf.band (pf.band (pf.band (pf.band (pf.band (pf.band (pf.band (pf.band (pf.band (pf.band (pf.band (pf.band (pf.band (pf.band (pf.band (pf.band (pf.band (pf.band (pf.band (pf.band (pf.band factB0 pf.laid) pf.mapsRow) factB3) factB4) factB5) pf.stops) factB7) pf.stopKnobs) factB9) factB10) factB11) factB12) factB13) factB14) factB15) factB16) factB17) factB18) factB19) factB20) factB21) (by show (Rows.fnExactRunTagByMarkovRow.plainKeys == Try.pinned.checked.prog.plainKeys) = true; rw [pf.plainKeys]; kernel_rfl)) factB23) pf.heard) pf.enter) (by show (Rows.fnExactRunTagByMarkovRow.lifted == Try.pinned.checked.prog.liftsFinal) = true; rw [pf.lifts]; kernel_rfl)) (by show (Try.pinned.checked.prog.make == some Rows.fnExactRunTagByMarkovRow.make) = true; rw [pf.make]; kernel_rfl)) factB28) factB29) factB30) factB31)
theorem factC : decide (Func.isInstance Try.pinned.checked.prog Try.f7 Rows.fnExactRunTagByMarkovRow.origin Rows.fnExactRunTagByMarkovRow.targs) = true := by kernel_rfl
theorem factD : Func.isWrapper Try.pinned.checked.prog Try.f7 Rows.fnExactRunTagByMarkovRow.wrapper Rows.fnExactRunTagByMarkovRow.mainSum := by
  unfold Func.isWrapper; first | (rw [if_pos (by decide +kernel)]; kernel_rfl) | (rw [if_neg (by decide +kernel)]; exact ⟨rfl, rfl⟩)

theorem over : Rows.fnExactRunTagByMarkovRow.holds Try.pinned (OpenSpec.ofChange Rows.fnExactRunTagByMarkovSpec) :=
  OpenClaim.holds_of_wide 7 Try.f7 rfl rfl rfl rfl rfl rfl rfl ⟨rfl, rfl, rfl, rfl, rfl⟩ rfl rfl rfl rfl rfl factA Try.func7 factB (of_decide_eq_true factC) factD
    (fun os started H enc _ => lifted os started H enc)

/-- The statement. -/
theorem proved : Rows.FnExactRunTagByMarkovSaid := over
#print axioms proved
end Go.Proofs.Ytcfkjigapnknnaa.lawRunTagByMarkov
