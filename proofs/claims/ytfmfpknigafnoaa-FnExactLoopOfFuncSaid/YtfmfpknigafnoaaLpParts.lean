/- Loop programs of recursive functions, the program's side: partsAt. -/
import Derived.Test.YtfmfpknigafnoaaLpHelp
import Derived.Test.YtfmfpknigafnoaaFEnd
import Derived.Test.YtfmfpknigafnoaaLpModel
namespace Go.Proofs.Ytfmfpknigafnoaa
open Go.RowKit
set_option linter.all false

theorem infoFuncsE : (Try.prog.info? 52).map (fun i => (i.zero, i.size, i.bytes)) = some (some (.slice none 0 0), 1, 24) := by kernel_rfl
/-- Slices of one block that read as the parts of a function. -/
def PartsV (w : World) (b : Nat) (ps : List (List R3)) (vs : List Value) : Prop := vs.length = ps.length ∧ ∀ (i : Nat) (p : List R3), ps[i]? = some p → ∃ o c, vs[i]? = some (.slice (some ⟨b, o, none⟩) p.length c) ∧ p.length ≤ c ∧ Sl w b o (rows R3.vs p)
theorem PartsV.snoc {w : World} {b : Nat} {ps : List (List R3)} {vs : List Value} (h : PartsV w b ps vs) {p : List R3} {o c : Nat} (hc : p.length ≤ c) (hs : Sl w b o (rows R3.vs p)) : PartsV w b (ps ++ [p]) (vs ++ [.slice (some ⟨b, o, none⟩) p.length c]) := by
  refine ⟨by simp [h.1], fun i q hq => ?_⟩
  rcases Nat.lt_or_ge i ps.length with hi | hi
  · rw [List.getElem?_append_left hi] at hq
    obtain ⟨o', c', h1, h2, h3⟩ := h.2 i q hq
    exact ⟨o', c', by rw [List.getElem?_append_left (by rw [h.1]; exact hi)]; exact h1, h2, h3⟩
  · rw [List.getElem?_append_right hi] at hq
    obtain ⟨rfl, rfl⟩ : i = ps.length ∧ p = q := by
      have h0 := (List.getElem?_eq_some_iff.1 hq).1
      simp at h0
      have h2 : i = ps.length := by omega
      subst h2
      simp at hq
      exact ⟨rfl, hq⟩
    exact ⟨o, c, by rw [List.getElem?_append_right (by rw [h.1]; exact Nat.le_refl _), h.1]; simp, hc, hs⟩
theorem cut_at {M t : Nat} {l r : List R3} (ht : t < M) (h : (cut M l).drop t = cut (M - t) r) : (cut M l)[t]? = some (r.take (endL r)) ∧ (cut M l).drop (t + 1) = cut (M - (t + 1)) (r.drop (endL r)) := by
  obtain ⟨d, hd⟩ : ∃ d, M - t = d + 1 := ⟨M - t - 1, by omega⟩
  rw [hd, cut] at h
  have h1 : (cut M l)[t]? = some (r.take (endL r)) := by
    have := congrArg (fun z => z[0]?) h
    simpa [List.getElem?_drop] using this
  refine ⟨h1, ?_⟩
  rw [show M - (t + 1) = d by omega]
  have := congrArg (fun z => z.drop 1) h
  simpa [List.drop_drop, Nat.add_comm] using this
theorem sl_part {w : World} {b off k q : Nat} {T : List R3} (h : Sl w b off (rows R3.vs T)) (hk : k + q ≤ T.length) : Sl w b (off + k * 3) (rows R3.vs ((T.drop k).take q)) := by
  refine ⟨h.1, fun j u hu => ?_⟩
  have e : T = T.take k ++ ((T.drop k).take q ++ (T.drop k).drop q) := by rw [List.take_append_drop, List.take_append_drop]
  have h2 : (rows R3.vs T)[k * 3 + j]? = some u := by
    rw [e, rows_app, List.getElem?_append_right (by rw [rows_len R3.vs_len, List.length_take]; omega), rows_len R3.vs_len, List.length_take, Nat.min_eq_left (by omega), rows_app, List.getElem?_append_left]
    · rw [show k * 3 + j - k * 3 = j by omega]; exact hu
    · have := (List.getElem?_eq_some_iff.1 hu).1; omega
  have := h.at h2
  rw [← Nat.add_assoc] at this
  exact this

theorem funcEnd_wild (b off n c : Nat) (T : List R3) (hl : T.length = n) (hn : n ≤ 1048576) (k : Nat) (a : Int) (st : List Int) (h : fRun (a :: st) (T.drop k) = some []) (hk : k ≤ n) (w : World) (hs : Sl w b off (rows R3.vs T)) (q : Nat) (hq : q = endL (T.drop k)) :
    Calls Try.prog 174 #[.slice (some ⟨b, off, none⟩) n c, .int .i64 (k : Int), .int .i64 (-1)] w fun e w' => e = .returned (.int .i64 ((k + q : Nat) : Int)) ∧ Below w.heap.size w w' := by
  obtain ⟨h1, h2, h3, h4, h5, h6⟩ := fRun_one h
  refine (funcEnd_any (some ⟨b, off, none⟩) n c T hl hn (n + 1) k k (-1) w rfl (by omega) hk (by omega) (by omega) (Args.of_sl hs (by rw [rows_len R3.vs_len, hl]))).mono ?_
  rintro e w' ⟨⟨z, rfl, hz⟩, hb⟩
  refine ⟨?_, hb⟩
  have hw := fRun_wild h4
  rcases hz with ⟨_, h0⟩ | ⟨q', rfl, _, hq2, h0⟩
  · rw [h0] at hw; cases hw
  · rw [h0] at hw
    injection hw with hw
    have hlen := congrArg List.length hw
    rw [List.drop_drop, List.length_drop, List.length_drop] at hlen
    rw [List.length_drop] at h1
    have : q' = q := by rw [hq]; omega
    rw [this]

set_option maxRecDepth 100000 in
set_option maxHeartbeats 1000000 in
theorem partsAt_any (b off n c : Nat) (T : List R3) (x : R3) (l : List R3) (hT : T = x :: l) (hl : T.length = n) (hn60 : n ≤ 60) (hc : n ≤ c) (hok : fOkN x = true) (hrun : fRun (fFols x) l = some []) (w : World) (hs : Sl w b off (rows R3.vs T)) :
    Calls Try.prog 175 #[.slice (some ⟨b, off, none⟩) n c, .int .i64 0] w fun e w' => ∃ v vs, e = .returned v ∧ w'.ownsRow w.heap.size 52 1 v (fMany x) vs ∧ PartsV w b (cut (fMany x) l) vs ∧ Below w.heap.size w w' := by
  have HL := Lib.hid hl
  have hfl := fFols_len hok
  have hM := fMany_le hok
  have hx0 : T[0]? = some x := by rw [hT]; rfl
  have hd1 : T.drop 1 = l := by rw [hT]; rfl
  have hn1 : 0 < n := by rw [← hl, hT]; simp
  have HF := Lib.hid (followers_any x hok)
  obtain ⟨M, hMM⟩ : ∃ M, M = fMany x := ⟨_, rfl⟩
  rw [← hMM] at hfl hM ⊢
  obtain ⟨p0, p1, p2⟩ := hs.rec3 hx0
  rw [Nat.zero_mul, Nat.add_zero] at p0 p1 p2
  have HFO : Hid (∀ W, Calls Try.prog 213 #[.agg #[.int .i64 x.a, .int .i64 x.b, .int .i64 x.c]] W fun e w' => (∃ A c', e = .returned (.slice A M c')) ∧ Below W.heap.size W w') := by
    intro W
    refine (followers_any x hok W).mono ?_
    rintro e w' ⟨⟨A, c', rfl, _⟩, hb⟩
    exact ⟨⟨A, c', by rw [hMM]⟩, hb⟩
  have HR := Lib.hid hrun
  have HD := Lib.hid hd1
  have HFL := Lib.hid hfl
  have B0 := laid_below w (.cells #[] 52)
  have own0 := own_empty w 52 1
  have q0 := cell_step (by exact p0) B0
  have q1 := cell_step (by exact p1) B0
  have q2 := cell_step (by exact p2) B0
  have hn1' : (0 : Int) < (n : Int) := by omega
  clear hT hl hfl hd1 hx0 HF hrun hMM hok p0 p1 p2
  go_enter Try.func175, Try.ntmps175
  go_wp2_with fail
  refine (HFO.out _).mono ?_
  rintro e w1 ⟨⟨A, c', rfl⟩, b1⟩
  have own1 := own_below' own0 b1
  have B1 := below_step B0 b1
  clear q0 q1 q2 own0 B0 b1
  go_wp2_with fail
  go_loopw [5, 6, 17] (fun vo kf i wr => ∃ t k : Nat, t ≤ M ∧ k ≤ n ∧ i = .int .i64 (t : Nat) ∧ kf = .int .i64 (k : Nat) ∧ Hid (fRun ((fFols x).drop t) (T.drop k) = some []) ∧ Hid ((cut M l).drop t = cut (M - t) (T.drop k)) ∧ (∃ A c vs, vo = .slice A t c ∧ Hid (wr.ownsRow w.heap.size 52 1 (.slice A t c) t vs) ∧ Hid (PartsV w b ((cut M l).take t) vs)) ∧ Below w.heap.size w wr) (fun _ _ i _ => M - (intOf i).toNat)
  case atStart => exact ⟨0, 1, by omega, by omega, rfl, rfl, by unfold Hid; rw [List.drop_zero, HD.out]; exact HR.out, by unfold Hid; rw [List.drop_zero, HD.out]; rfl, ⟨_, _, _, rfl, own1, ⟨rfl, by simp⟩⟩, B1⟩
  case round =>
    obtain ⟨t, k, ht, hk, rfl, rfl, HRR, HCC, ⟨A2, c2, vs, rfl, ho, HPV⟩, hB⟩ := hrel
    clear own1 B1
    by_cases hlt : t < M
    · obtain ⟨a, ha⟩ : ∃ a, (fFols x)[t]? = some a := ⟨_, List.getElem?_eq_getElem (by rw [HFL.out]; exact hlt)⟩
      have hr := HRR.out
      rw [drop_at ha] at hr
      obtain ⟨h1, h2, h3, h4, h5, h6⟩ := fRun_one hr
      obtain ⟨hc1, hc2⟩ := cut_at hlt HCC.out
      obtain ⟨q, hq⟩ : ∃ q, q = endL (T.drop k) := ⟨_, rfl⟩
      have HE := Lib.hid (fun W (hW : Below w.heap.size w W) => funcEnd_wild b off n c T HL.out (by omega) k a _ hr hk W (hs.below' hW) q hq)
      rw [← hq] at h1 h2 h6 hc1 hc2
      rw [List.length_drop, HL.out] at h1
      obtain ⟨o', ho', hsl⟩ := run_slice_part (P := Try.prog) 52 115 Try.underlying52 infoFunc b off n c k q (k : Int) ((k + q : Nat) : Int) rfl rfl (by omega)
      have ho2 : o' = off + k * 3 := by omega
      have hpl : ((T.drop k).take q).length = q := by rw [List.length_take, List.length_drop, HL.out]; omega
      have HPV' : Hid (PartsV w b ((cut M l).take (t + 1)) (vs ++ [.slice (some ⟨b, o', none⟩) q (c - k)])) := by
        have := HPV.out.snoc (p := (T.drop k).take q) (o := off + k * 3) (c := c - k) (by omega) (sl_part hs (by rw [HL.out]; omega))
        rw [hpl] at this
        unfold Hid; rw [List.take_add_one, hc1, ho2]; exact this
      have HRR' : Hid (fRun ((fFols x).drop (t + 1)) (T.drop (k + q)) = some []) := by unfold Hid; rw [List.drop_drop] at h6; exact h6
      have HCC' : Hid ((cut M l).drop (t + 1) = cut (M - (t + 1)) (T.drop (k + q))) := by unfold Hid; rw [List.drop_drop] at hc2; exact hc2
      have hkq : k + q ≤ n := by omega
      clear h1 h2 h3 h4 h5 h6 hc1 hc2 hq hr ha ho' ho2 hpl HRR HCC HPV
      obtain ⟨kq, hkq'⟩ : ∃ kq, kq = k + q := ⟨_, rfl⟩
      rw [← hkq'] at HE HRR' HCC' hkq hsl
      have h1i : (k : Int) ≤ (kq : Int) := by omega
      have h2i : (kq : Int) ≤ (c : Int) := by omega
      clear hkq'
      go_wp2_with fail
      refine (HE.out _ hB).mono ?_
      rintro e w2 ⟨rfl, b2⟩
      have ob := own_below' ho.out b2
      have B2 := below_step hB b2
      go_wp2_with (at_builtin; refine wpList_app rfl _ _ _ rfl Try.underlying208 infoFuncsE rfl (by omega) w w2 ob B2 rfl 1 #[.slice (some ⟨b, o', none⟩) q (c - k)] rfl (laid_below _ _) (heap_alloc_new _ _) rfl (by simp [Value.oneCell']) (by omega) (by unfold maxLen; omega) (by omega) ?_; intro g cap w3 own3 B3)
      go_roundw
      case rel => exact ⟨t + 1, kq, hlt, hkq, by go_num, rfl, HRR', HCC', ⟨_, _, _, rfl, own3, HPV'⟩, B3⟩
      case measure => simp [intOf]; omega
    · obtain rfl : t = M := by omega
      have HPV' : Hid (PartsV w b (cut t l) vs) := by have := HPV.out; rw [List.take_of_length_le (by rw [cut_len]; exact Nat.le_refl _)] at this; exact this
      go_wp2
      go_ret
      exact ⟨_, _, rfl, ho.out, HPV'.out, hB⟩
end Go.Proofs.Ytfmfpknigafnoaa
