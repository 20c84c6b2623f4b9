/- CheckDerivation, the reference's and the program's. -/
import Derived.Test.YteocnkiagifmfaaApplyRw
import Derived.Test.YteocnkiagifmfaaHelpInt64SS
namespace Go.Proofs.Yteocnkiagifmfaa
open Go.RowKit
set_option linter.all false

def deriveAll (xs : List DRewrite) (ts : List (List Int)) (x : List Int) : List Int × Int := if ts.length ≤ 100 then deriveGo xs ts x else ([], 2)
theorem deriveGo_bad {xs : List DRewrite} {s : List Int} {l : List (List Int)} {w : List Int} (h : s.length ≠ 2) : deriveGo xs (s :: l) w = ([], 7) := by
  conv => lhs; unfold deriveGo
  rw [if_neg h]
theorem deriveGo_no {xs : List DRewrite} {p q c : Int} {l : List (List Int)} {w z : List Int} (h : applyAt xs w p q = (z, c)) (hc : c ≠ 0) : deriveGo xs ([p, q] :: l) w = ([], 7) := by
  conv => lhs; unfold deriveGo
  rw [if_pos (show [p, q].length = 2 from rfl)]
  show (if (applyAt xs w p q).2 = 0 then _ else _) = _
  rw [h, if_neg hc]
theorem deriveGo_yes {xs : List DRewrite} {p q : Int} {l : List (List Int)} {w z : List Int} (h : applyAt xs w p q = (z, 0)) : deriveGo xs ([p, q] :: l) w = deriveGo xs l z := by
  conv => lhs; unfold deriveGo
  rw [if_pos (show [p, q].length = 2 from rfl)]
  show (if (applyAt xs w p q).2 = 0 then deriveGo xs l (applyAt xs w p q).1 else _) = _
  rw [h, if_pos rfl]
theorem pair_of {t : List Int} (h : t.length = 2) : ∃ p q, t = [p, q] := by
  match t, h with
  | [p, q], _ => exact ⟨p, q, rfl⟩
theorem src_pair {w : World} {v : Value} {p q : Int} (h : Src 1 w v [p, q].length (rows oneI [p, q])) : ∃ b o c, v = .slice (some ⟨b, o, none⟩) 2 c ∧ w.cell? ⟨b, o, none⟩ = some (.int .i64 p) ∧ w.cell? ⟨b, o + 1, none⟩ = some (.int .i64 q) := by
  rcases h.2 with ⟨_, h0⟩ | ⟨b, o, c, rfl, hs⟩
  · simp at h0
  · refine ⟨b, o, c, rfl, ?_, ?_⟩
    · have := hs.at (j := 0) (u := .int .i64 p) rfl
      simpa using this
    · exact hs.at (j := 1) (u := .int .i64 q) rfl

theorem startsNil {p : List Int} (h : p.length ≠ 0) : startsB [] 0 p = false := by
  unfold startsB; rw [decide_eq_false (by rw [List.length_nil]; omega), Bool.false_and]

set_option maxRecDepth 100000 in
set_option maxHeartbeats 1000000 in
theorem implApplyAt_nil (b off n c : Nat) (es : List ERewrite) (xs : List DRewrite) (rule at' : Int) (w : World) (hs : Sl w b off (rows ERewrite.vs es)) (hr : RcsRewrite w es) (hd : es.map (·.d) = xs) (hl : xs.length = n) (hn : n ≤ 1048576) (ht : sumRewrite xs ≤ 1048576) (hok : ∀ r ∈ xs, r.f0.length ≠ 0) :
    Calls Try.prog 92 #[.slice (some ⟨b, off, none⟩) n c, .slice none 0 0, .int .i64 rule, .int .i64 at'] w fun e w' => ∃ v, e = .returned (.tuple #[v, .int .i64 (applyAt xs [] rule at').2]) ∧
      w'.ownsRow w.heap.size 2 1 v (applyAt xs [] rule at').1.length ((applyAt xs [] rule at').1.map (.int .i64)) ∧ Below w.heap.size w w' := by
  have HL := Lib.hid hl; have HD := Lib.hid hd; have HT := Lib.hid ht
  have HE : Hid (es.length = n) := by unfold Hid; rw [← hl, ← hd, List.length_map]
  have HOK := Lib.hid hok
  clear hl hd ht hok
  have hwn : IntKind.i64.wrap ((n : Int) - 1) = (n : Int) - 1 := IntWalk.i64_in _ (by omega)
  rcases Bool.eq_false_or_eq_true (inB rule 0 ((n : Int) - 1)) with hi | hi
  rotate_left
  · have HI := Lib.hid hi; clear hi
    have HF : Hid (applyAt xs [] rule at' = ([], 2)) := by unfold Hid; rw [applyAt_out (by unfold applyIn; rw [HL.out, HI.out]; rfl)]
    go_enter Try.func92, Try.ntmps92
    go_wp2_with fail
    refine (sizeRw_any _ n c _).mono ?_
    rintro e w' ⟨rfl, rfl⟩
    go_wp2_with fail
    refine (within_is rule 0 ((n : Int) - 1) false HI.out _).mono ?_
    rintro e w' ⟨rfl, rfl⟩
    go_wp2_with fail
    go_ret2
    exact ⟨_, ends2 (by rw [HF.out]), own_nil' HF.out, Below.refl _ _⟩
  have HI := Lib.hid hi
  rcases Bool.eq_false_or_eq_true (inB at' 0 (0 : Nat)) with hj | hj
  rotate_left
  · have HJ := Lib.hid hj; clear hj hi
    have HF : Hid (applyAt xs [] rule at' = ([], 2)) := by unfold Hid; rw [applyAt_out (by unfold applyIn; rw [List.length_nil, HJ.out, Bool.and_false])]
    go_enter Try.func92, Try.ntmps92
    go_wp2_with fail
    refine (sizeRw_any _ n c _).mono ?_
    rintro e w' ⟨rfl, rfl⟩
    go_wp2_with fail
    refine (within_is rule 0 ((n : Int) - 1) true HI.out _).mono ?_
    rintro e w' ⟨rfl, rfl⟩
    go_wp2_with fail
    refine (size_int64_any _ 0 0 _).mono ?_
    rintro e w' ⟨rfl, rfl⟩
    go_wp2_with fail
    refine (within_is at' 0 (0 : Nat) false HJ.out _).mono ?_
    rintro e w' ⟨rfl, rfl⟩
    go_wp2_with fail
    go_ret2
    exact ⟨_, ends2 (by rw [HF.out]), own_nil' HF.out, Below.refl _ _⟩
  have HJ := Lib.hid hj
  obtain ⟨i, rfl⟩ : ∃ i : Nat, rule = i := ⟨rule.toNat, by have := (inB_iff _ _ _).1 hi; omega⟩
  obtain ⟨k, rfl⟩ : ∃ k : Nat, at' = k := ⟨at'.toNat, by have := (inB_iff _ _ _).1 hj; omega⟩
  have hi2 : i < n := by have := (inB_iff _ _ _).1 hi; omega
  have hk : Hid (k = 0) := by have := (inB_iff _ _ _).1 hj; unfold Hid; omega
  have hk1 : (k : Int) ≤ ((0 : Nat) : Int) := by have := hk.out; omega
  have hk2 : 0 ≤ (k : Int) := by omega
  clear hi hj
  have hi := hi2
  obtain ⟨e, HX⟩ := hget HE hi
  have HXD : Hid (xs[i]? = some e.d) := by unfold Hid; rw [← HD.out, List.getElem?_map, HX.out]; rfl
  have hwl : wlRewrite e.d ≤ 1048576 := Nat.le_trans (sumRewrite_at HXD.out) HT.out
  obtain ⟨⟨g0, eu0, s0⟩, ⟨g1, eu1, s1⟩, -⟩ := hr.at (List.mem_of_getElem? HX.out)
  have p0 : w.cell? ⟨b, off + i * 2, none⟩ = some e.u0 := Sl.rec (f := ERewrite.vs) (s := 2) (fun _ => rfl) hs HX.out (j := 0) rfl
  have p1 : w.cell? ⟨b, off + i * 2 + 1, none⟩ = some e.u1 := Sl.rec (f := ERewrite.vs) (s := 2) (fun _ => rfl) hs HX.out (j := 1) rfl
  rw [eu0] at p0
  rw [eu1] at p1
  clear eu0 eu1
  obtain ⟨⟨f0, f1⟩, u0, u1⟩ := e
  dsimp only at p0 p1 s0 s1 hwl HXD
  simp only [wlRewrite] at hwl
  obtain ⟨m0, hm0⟩ : ∃ q, q = f0.length := ⟨_, rfl⟩
  obtain ⟨m1, hm1⟩ : ∃ q, q = f1.length := ⟨_, rfl⟩
  rw [← hm0] at p0 hwl
  rw [← hm1] at p1 hwl
  have HM0 := Lib.hid hm0.symm
  have HM1 := Lib.hid hm1.symm
  clear hm0 hm1
  have hm0 : m0 ≠ 0 := by have := HOK.out _ (List.mem_of_getElem? HXD.out); have := HM0.out; simp only at *; omega
  have HF : Hid (applyAt xs [] i k = ([], 3)) := by
    have hk0 := hk.out
    unfold Hid; rw [applyAt_in HXD.out (by rw [hk0]; exact Nat.zero_le _), stepRw_no (by rw [hk0]; exact startsNil (by show f0.length ≠ 0; rw [HM0.out]; exact hm0))]
  have HMZ : Hid (decide (m0 = 0) = false) := decide_eq_false hm0
  clear hs hr s0 s1
  obtain ⟨w0, HW0, B0, x0⟩ := al1 w (.cells #[.slice (some ⟨g0, 0, none⟩) m0 m0, .slice (some ⟨g1, 0, none⟩) m1 m1] 117)
  have k0 : w0.cell? ⟨w.heap.size, 0, none⟩ = some (.slice (some ⟨g0, 0, none⟩) m0 m0) := by rw [cell_of_heap x0]; rfl
  have k1 : w0.cell? ⟨w.heap.size, 1, none⟩ = some (.slice (some ⟨g1, 0, none⟩) m1 m1) := by rw [cell_of_heap x0]; rfl
  clear x0 hm0
  go_enter Try.func92, Try.ntmps92
  go_wp2_with fail
  refine (sizeRw_any _ n c _).mono ?_
  rintro e w' ⟨rfl, rfl⟩
  go_wp2_with fail
  refine (within_is i 0 ((n : Int) - 1) true HI.out _).mono ?_
  rintro e w' ⟨rfl, rfl⟩
  go_wp2_with fail
  refine (size_int64_any _ 0 0 _).mono ?_
  rintro e w' ⟨rfl, rfl⟩
  go_wp2_with fail
  refine (within_is k 0 (0 : Nat) true HJ.out _).mono ?_
  rintro e w' ⟨rfl, rfl⟩
  go_wp2_with fail
  rw [← HW0.out]
  have hk0 := hk.out
  subst hk0
  have HF : Hid (applyAt xs [] i 0 = ([], 3)) := HF.out
  go_quiet ((go_at_call 158; exact quiet_q (begins_nil g0 0 m0 m0 _ (by omega) false HMZ.out)))
  have hBq : Below w.heap.size w (w0.drewN nq) := below_drewN B0 nq
  go_wp2_with fail
  go_ret2
  exact ⟨_, ends2 (by rw [HF.out]), own_nil' HF.out, hBq⟩

theorem implApplyAt_own (b off n c : Nat) (es : List ERewrite) (xs : List DRewrite) (v0 : Value) (n1 : Nat) (x : List Int) (rule at' : Int) (w : World) (hs : Sl w b off (rows ERewrite.vs es)) (hr : RcsRewrite w es) (hd : es.map (·.d) = xs) (hl : xs.length = n) (hn : n ≤ 1048576) (ht : sumRewrite xs ≤ 1048576) (hok : ∀ r ∈ xs, r.f0.length ≠ 0) (B : Nat) (hown : w.ownsRow B 2 1 v0 n1 (x.map (.int .i64))) (hn1 : n1 ≤ 1048576) :
    Calls Try.prog 92 #[.slice (some ⟨b, off, none⟩) n c, v0, .int .i64 rule, .int .i64 at'] w fun e w' => ∃ v, e = .returned (.tuple #[v, .int .i64 (applyAt xs x rule at').2]) ∧
      w'.ownsRow w.heap.size 2 1 v (applyAt xs x rule at').1.length ((applyAt xs x rule at').1.map (.int .i64)) ∧ Below w.heap.size w w' := by
  have hl1 : x.length = n1 := by have := hown.1; rw [List.length_map] at this; omega
  rcases own_cases hown with ⟨rfl, rfl⟩ | ⟨g, d, rfl, hcap⟩
  · obtain rfl : x = [] := List.eq_nil_of_length_eq_zero hl1
    exact implApplyAt_nil b off n c es xs rule at' w hs hr hd hl hn ht hok
  · exact implApplyAt_any b off n c es xs g 0 n1 d x rule at' w hs hr hd hl hn ht (sl_of_own hown) hl1 hn1 hcap

theorem len_le_sum {ts : List (List Int)} {k : Nat} {t : List Int} (h : ts[k]? = some t) : t.length ≤ sumLen ts := by
  have h1 : t ∈ ts := List.mem_of_getElem? h
  unfold sumLen
  induction ts generalizing k with
  | nil => cases h1
  | cons a l ih =>
    simp only [List.map_cons, List.sum_cons]
    rcases List.mem_cons.1 h1 with rfl | h2
    · omega
    · obtain ⟨j, hj⟩ := List.getElem?_of_mem h2
      have := ih hj h2
      omega

set_option maxRecDepth 100000 in
set_option maxHeartbeats 2000000 in
theorem derived_any (b off n c : Nat) (es : List ERewrite) (xs : List DRewrite) (b1 o1 n1 c1 : Nat) (x : List Int) (b2 o2 n2 c2 : Nat) (vs : List Value) (ts : List (List Int)) (w : World) (hs : Sl w b off (rows ERewrite.vs es)) (hr : RcsRewrite w es) (hd : es.map (·.d) = xs) (hl : xs.length = n) (hn : n ≤ 1048576) (ht : sumRewrite xs ≤ 1048576) (hs1 : Sl w b1 o1 (x.map (.int .i64))) (hl1 : x.length = n1) (hn1 : n1 ≤ 1048576) (hc1 : n1 ≤ c1) (hs2 : Sl w b2 o2 vs) (hv2 : Srcs 1 oneI w vs ts) (hl2 : ts.length = n2) (hn2 : n2 ≤ 1048576) (hsum : sumLen ts ≤ 1048576) (hok : ∀ r ∈ xs, r.f0.length ≠ 0) (hw : n1 ≤ 400) :
    Calls Try.prog 107 #[.slice (some ⟨b, off, none⟩) n c, .slice (some ⟨b1, o1, none⟩) n1 c1, .slice (some ⟨b2, o2, none⟩) n2 c2] w fun e w' => ∃ v, e = .returned (.tuple #[v, .int .i64 (deriveAll xs ts x).2]) ∧
      w'.ownsRow w.heap.size 2 1 v (deriveAll xs ts x).1.length ((deriveAll xs ts x).1.map (.int .i64)) ∧ Below w.heap.size w w' := by
  have HL := Lib.hid hl; have HD := Lib.hid hd; have HT := Lib.hid ht
  have HE : Hid (es.length = n) := by unfold Hid; rw [← hl, ← hd, List.length_map]
  have HL1 := Lib.hid hl1
  have HL2 := Lib.hid hl2
  have hvl := Lib.hid hv2.1
  by_cases h100 : n2 ≤ 100
  rotate_left
  · have HF : Hid (deriveAll xs ts x = ([], 2)) := by unfold Hid deriveAll; rw [if_neg (by omega)]
    go_enter Try.func107, Try.ntmps107
    go_wp2_with fail
    go_ret2
    exact ⟨_, ends2 (by rw [HF.out]), own_nil' HF.out, Below.refl _ _⟩
  have HF0 : Hid (deriveAll xs ts x = deriveGo xs ts x) := by unfold Hid deriveAll; rw [if_pos (by omega)]
  rw [HF0.out]
  clear hl hd ht hl1 hl2 HF0
  go_enter Try.func107, Try.ntmps107
  go_wp2_with fail
  refine (cloneA_any b1 o1 n1 c1 x _ hs1 HL1.out (by omega)).mono ?_
  rintro e w2 ⟨g0, d0, rfl, hown0, hB0, hd0⟩
  go_wp2_with fail
  go_loopw [8, 20] (fun vv i wr => ∃ (k m : Nat) (y : List Int), k ≤ n2 ∧ i = .int .i64 k ∧ m ≤ 400 ∧ wr.ownsRow w.heap.size 2 1 vv m (y.map (.int .i64)) ∧ Below w.heap.size w wr ∧ Hid (y.length = m) ∧ Hid (deriveGo xs ts x = deriveGo xs (ts.drop k) y)) (fun _ i _ => n2 - (intOf i).toNat)
  case atStart => exact ⟨0, n1, x, Nat.zero_le _, rfl, hw, hown0, hB0, HL1, rfl⟩
  case round =>
    obtain ⟨k, m, y, hk, rfl, hm4, hown, hB, HY, HQ⟩ := hrel
    clear hown0 hB0
    by_cases hlt : k < n2
    rotate_left
    · have HF : Hid (deriveGo xs ts x = (y, 0)) := by unfold Hid; rw [HQ.out, List.drop_of_length_le (by have := HL2.out; omega)]; rfl
      obtain ⟨A, d, rfl⟩ := own_form hown
      go_wp2_with fail
      go_ret2
      exact ⟨_, ends2 (by rw [HF.out]), own_fit HF.out HY.out hown, hB⟩
    obtain ⟨v, hv1⟩ : ∃ v, vs[k]? = some v := ⟨_, List.getElem?_eq_getElem (by have := hvl.out; have := HL2.out; omega)⟩
    obtain ⟨t, ht1⟩ : ∃ t, ts[k]? = some t := ⟨_, List.getElem?_eq_getElem (by have := HL2.out; omega)⟩
    have hsrc := (hv2.below hB).2 k v t hv1 ht1
    have hca := (hs2.below' hB).at hv1
    have HD9 : Hid (ts.drop k = t :: ts.drop (k + 1)) := drop_at ht1
    have HT9 := Lib.hid ht1
    clear hv1 ht1
    have htl : t.length ≤ 1048576 := Nat.le_trans (len_le_sum HT9.out) hsum
    by_cases h2 : t.length = 2
    rotate_left
    · have HF : Hid (deriveGo xs ts x = ([], 7)) := by unfold Hid; rw [HQ.out, HD9.out, deriveGo_bad h2]
      obtain ⟨A9, c9, rfl⟩ := hsrc.form
      obtain ⟨n9, hn9⟩ : ∃ n9, n9 = t.length := ⟨_, rfl⟩
      rw [← hn9] at hca htl h2
      obtain ⟨A, d, rfl⟩ := own_form hown
      clear hsrc hn9
      go_wp2_with fail
      go_ret2
      exact ⟨_, ends2 (by rw [HF.out]), own_nil' HF.out, hB⟩
    obtain ⟨p, q, rfl⟩ := pair_of h2
    obtain ⟨b9, o9, c9, rfl, q0, q1⟩ := src_pair hsrc
    obtain ⟨⟨z, cd⟩, hz⟩ : ∃ r, r = applyAt xs y p q := ⟨_, rfl⟩
    have hBd : Below w.heap.size w wr.drew := hB.drew
    have HST := implApplyAt_own b off n c es xs _ m y p q wr.drew (by exact hs.below' hBd) (by exact hr.below hBd) HD.out HL.out hn HT.out hok w.heap.size (by exact hown) (by omega)
    have hzl : z.length ≤ 400 := by have := applyAt_len xs y p q; rw [← hz] at this; exact this
    rw [← hz] at HST
    have HST := Lib.hid HST
    obtain ⟨A, d, rfl⟩ := own_form hown
    by_cases hc : cd = 0
    · subst hc
      have HN : Hid (deriveGo xs ts x = deriveGo xs (ts.drop (k + 1)) z) := by unfold Hid; rw [HQ.out, HD9.out, deriveGo_yes hz.symm]
      clear hz hsrc h2 htl
      go_wp2_with fail
      obtain ⟨mz, hmz⟩ : ∃ q, q = z.length := ⟨_, rfl⟩
      have HMZ := Lib.hid hmz.symm
      try dsimp only at HST
      rw [← hmz] at HST hzl
      clear hmz
      go_region_held3 (fun W => W.cell? ⟨b9, o9, none⟩ = some (.int .i64 p) ∧ W.cell? ⟨b9, o9 + 1, none⟩ = some (.int .i64 q)) (first | go_keep | exact ⟨r0, r1⟩)
        ((go_at_call 92; refine HST.out.mono ?_; rintro e w3 ⟨v3, rfl, own3, b3⟩; have b4 := below_drew_at b3; have r0 := cell_step (by exact q0) b4; have r1 := cell_step (by exact q1) b4; have B3 := below_step hB b4; have own4 := own_base own3 hB.size; obtain ⟨A3, d3, rfl⟩ := own_form own4))
      all_goals
        clear hown own3 b3 b4 hB q0 q1 r0 r1 hca
        go_wp2_with fail
        go_roundw
        case rel => exact ⟨k + 1, mz, z, by omega, by go_num, hzl, own4, B3, HMZ, HN⟩
        case measure => simp [intOf]; omega
    · have HF : Hid (deriveGo xs ts x = ([], 7)) := by unfold Hid; rw [HQ.out, HD9.out, deriveGo_no hz.symm hc]
      have hcd : (cd != 0) = true := by simpa using hc
      clear hz hsrc h2 htl
      go_wp2_with fail
      go_region_held3 (fun W => W.cell? ⟨b9, o9, none⟩ = some (.int .i64 p) ∧ W.cell? ⟨b9, o9 + 1, none⟩ = some (.int .i64 q)) (first | go_keep | exact ⟨r0, r1⟩)
        ((go_at_call 92; refine HST.out.mono ?_; rintro e w3 ⟨v3, rfl, own3, b3⟩; have b4 := below_drew_at b3; have r0 := cell_step (by exact q0) b4; have r1 := cell_step (by exact q1) b4; have B3 := below_step hB b4; obtain ⟨A3, d3, rfl⟩ := own_form own3))
      all_goals
        clear q0 q1 r0 r1 hca
        go_wp2_with fail
        go_ret2
        exact ⟨_, ends2 (by rw [HF.out]), own_nil' HF.out, B3⟩

set_option maxRecDepth 100000 in
set_option maxHeartbeats 2000000 in
theorem implCheckDerivation_any (b off n c : Nat) (es : List ERewrite) (xs : List DRewrite) (b1 o1 n1 c1 : Nat) (x : List Int) (b2 o2 n2 c2 : Nat) (vs : List Value) (ts : List (List Int)) (w : World) (hs : Sl w b off (rows ERewrite.vs es)) (hr : RcsRewrite w es) (hd : es.map (·.d) = xs) (hl : xs.length = n) (hn : n ≤ 1048576) (hc : n ≤ c) (ht : sumRewrite xs ≤ 1048576) (wf : ∀ x ∈ xs, x.wf) (hs1 : Sl w b1 o1 (x.map (.int .i64))) (hl1 : x.length = n1) (hn1 : n1 ≤ 1048576) (hc1 : n1 ≤ c1) (wf1 : Wf64s x) (hs2 : Sl w b2 o2 vs) (hv2 : Srcs 1 oneI w vs ts) (hl2 : ts.length = n2) (hn2 : n2 ≤ 1048576) (hsum : sumLen ts ≤ 1048576) (wf2 : ∀ t ∈ ts, ∀ x ∈ t, Wf64 x) :
    Calls Try.prog 42 #[.slice (some ⟨b, off, none⟩) n c, .slice (some ⟨b1, o1, none⟩) n1 c1, .slice (some ⟨b2, o2, none⟩) n2 c2] w fun e w' => ∃ v, e = .returned (.tuple #[v, .int .i64 (checkDer xs x ts).2]) ∧
      w'.ownsRow w.heap.size 2 1 v (checkDer xs x ts).1.length ((checkDer xs x ts).1.map (.int .i64)) ∧ Below w.heap.size w w' := by
  have HL := Lib.hid hl; have HD := Lib.hid hd; have HT := Lib.hid ht
  have HE : Hid (es.length = n) := by unfold Hid; rw [← hl, ← hd, List.length_map]
  have HL1 := Lib.hid hl1
  have HL2 := Lib.hid hl2
  have hvl := Lib.hid hv2.1
  clear hl hd ht hl1 hl2 wf wf1 wf2
  rcases Bool.eq_false_or_eq_true (validRws xs) with h1 | h1
  rotate_left
  · have HV := Lib.hid h1; clear h1
    have HF : Hid (checkDer xs x ts = ([], 1)) := by unfold Hid checkDer; rw [HV.out]; simp
    go_enter Try.func42, Try.ntmps42
    go_wp2_with fail
    refine (implValidRewrites_is b off n c es xs false HV.out _ hs hr HD.out HL.out hn HT.out).mono ?_
    rintro e w1 ⟨rfl, bb⟩
    go_wp2_with fail
    go_ret2
    exact ⟨_, ends2 (by rw [HF.out]), own_nil' HF.out, bb⟩
  have HV := Lib.hid h1; clear h1
  rcases Bool.eq_false_or_eq_true (isWordB x) with h2 | h2
  rotate_left
  · have HW := Lib.hid h2; clear h2
    have HF : Hid (checkDer xs x ts = ([], 1)) := by unfold Hid checkDer; rw [HW.out]; simp
    go_enter Try.func42, Try.ntmps42
    go_wp2_with fail
    refine (implValidRewrites_is b off n c es xs true HV.out _ hs hr HD.out HL.out hn HT.out).mono ?_
    rintro e w1 ⟨rfl, bb⟩
    go_wp2_with fail
    refine (isWord_is b1 o1 n1 c1 x false HW.out _ (hs1.below' bb) HL1.out (by omega)).mono ?_
    rintro e w' ⟨rfl, rfl⟩
    go_wp2_with fail
    go_ret2
    exact ⟨_, ends2 (by rw [HF.out]), own_nil' HF.out, bb⟩
  have HW := Lib.hid h2; clear h2
  have hw4 := isWord_len HW.out
  rw [HL1.out] at hw4
  have HA : Hid (checkDer xs x ts = deriveAll xs ts x) := by unfold Hid checkDer deriveAll; rw [HV.out, HW.out]; rfl
  rw [HA.out]
  have HDV := fun W (hW : Below w.heap.size w W) => derived_any b off n c es xs b1 o1 n1 c1 x b2 o2 n2 c2 vs ts W (hs.below' hW) (hr.below hW) HD.out HL.out hn HT.out (hs1.below' hW) HL1.out hn1 hc1 (hs2.below' hW) (hv2.below hW) HL2.out hn2 hsum (fun r hr' => (okRw_parts (okRw_at HV.out hr')).2.2) hw4
  have HDV := Lib.hid HDV
  go_enter Try.func42, Try.ntmps42
  go_wp2_with fail
  refine (implValidRewrites_is b off n c es xs true HV.out _ hs hr HD.out HL.out hn HT.out).mono ?_
  rintro e w1 ⟨rfl, bb⟩
  go_wp2_with fail
  refine (isWord_is b1 o1 n1 c1 x true HW.out _ (hs1.below' bb) HL1.out (by omega)).mono ?_
  rintro e w' ⟨rfl, rfl⟩
  go_wp2_with fail
  refine (HDV.out _ bb).mono ?_
  rintro e w2 ⟨v, rfl, hown, hB⟩
  obtain ⟨A, d, rfl⟩ := own_form hown
  go_wp2_with fail
  go_ret2
  exact ⟨_, rfl, own_base hown bb.size, below_step bb hB⟩

set_option maxRecDepth 100000 in
set_option maxHeartbeats 2000000 in
theorem specCheckDerivation_any (b off n c : Nat) (es : List ERewrite) (xs : List DRewrite) (b1 o1 n1 c1 : Nat) (x : List Int) (b2 o2 n2 c2 : Nat) (vs : List Value) (ts : List (List Int)) (w : World) (hs : Sl w b off (rows ERewrite.vs es)) (hr : RcsRewrite w es) (hd : es.map (·.d) = xs) (hl : xs.length = n) (hn : n ≤ 1048576) (hc : n ≤ c) (ht : sumRewrite xs ≤ 1048576) (wf : ∀ x ∈ xs, x.wf) (hs1 : Sl w b1 o1 (x.map (.int .i64))) (hl1 : x.length = n1) (hn1 : n1 ≤ 1048576) (hc1 : n1 ≤ c1) (wf1 : Wf64s x) (hs2 : Sl w b2 o2 vs) (hv2 : Srcs 1 oneI w vs ts) (hl2 : ts.length = n2) (hn2 : n2 ≤ 1048576) (hsum : sumLen ts ≤ 1048576) (wf2 : ∀ t ∈ ts, ∀ x ∈ t, Wf64 x) :
    Calls Try.prog 40 #[.slice (some ⟨b, off, none⟩) n c, .slice (some ⟨b1, o1, none⟩) n1 c1, .slice (some ⟨b2, o2, none⟩) n2 c2] w fun e w' => ∃ v, e = .returned (.tuple #[v, .int .i64 (checkDer xs x ts).2]) ∧
      w'.ownsRow w.heap.size 2 1 v (checkDer xs x ts).1.length ((checkDer xs x ts).1.map (.int .i64)) ∧ Below w.heap.size w w' := by
  have HL := Lib.hid hl; have HD := Lib.hid hd; have HT := Lib.hid ht
  have HE : Hid (es.length = n) := by unfold Hid; rw [← hl, ← hd, List.length_map]
  have HL1 := Lib.hid hl1
  have HL2 := Lib.hid hl2
  have hvl := Lib.hid hv2.1
  have HWF := Lib.hid wf2
  clear hl hd ht hl1 hl2 wf wf1 wf2
  rcases Bool.eq_false_or_eq_true (validRws xs) with h1 | h1
  rotate_left
  · have HV := Lib.hid h1; clear h1
    have HF : Hid (checkDer xs x ts = ([], 1)) := by unfold Hid checkDer; rw [HV.out]; simp
    go_enter Try.func40, Try.ntmps40
    go_wp2_with fail
    refine (l10Is_is b off n c es xs false HV.out _ hs hr HD.out HL.out hn HT.out).mono ?_
    rintro e w' ⟨rfl, rfl⟩
    go_wp2_with fail
    go_ret2
    exact ⟨_, ends2 (by rw [HF.out]), own_nil' HF.out, Below.refl _ _⟩
  have HV := Lib.hid h1; clear h1
  rcases Bool.eq_false_or_eq_true (isWordB x) with h2 | h2
  rotate_left
  · have HW := Lib.hid h2; clear h2
    have HF : Hid (checkDer xs x ts = ([], 1)) := by unfold Hid checkDer; rw [HW.out]; simp
    go_enter Try.func40, Try.ntmps40
    go_wp2_with fail
    refine (l10Is_is b off n c es xs true HV.out _ hs hr HD.out HL.out hn HT.out).mono ?_
    rintro e w' ⟨rfl, rfl⟩
    go_wp2_with fail
    refine (l03Is_is b1 o1 n1 c1 x false HW.out _ hs1 HL1.out (by omega)).mono ?_
    rintro e w' ⟨rfl, rfl⟩
    go_wp2_with fail
    go_ret2
    exact ⟨_, ends2 (by rw [HF.out]), own_nil' HF.out, Below.refl _ _⟩
  have HW := Lib.hid h2; clear h2
  have hw4 := isWord_len HW.out
  rw [HL1.out] at hw4
  by_cases h100 : n2 ≤ 100
  rotate_left
  · have HF : Hid (checkDer xs x ts = ([], 2)) := by unfold Hid checkDer; rw [HV.out, HW.out, if_pos (show (true && true) = true from rfl), if_neg (by have := HL2.out; omega)]
    go_enter Try.func40, Try.ntmps40
    go_wp2_with fail
    refine (l10Is_is b off n c es xs true HV.out _ hs hr HD.out HL.out hn HT.out).mono ?_
    rintro e w' ⟨rfl, rfl⟩
    go_wp2_with fail
    refine (l03Is_is b1 o1 n1 c1 x true HW.out _ hs1 HL1.out (by omega)).mono ?_
    rintro e w' ⟨rfl, rfl⟩
    go_wp2_with fail
    go_ret2
    exact ⟨_, ends2 (by rw [HF.out]), own_nil' HF.out, Below.refl _ _⟩
  have HA : Hid (checkDer xs x ts = deriveGo xs ts x) := by unfold Hid checkDer; rw [HV.out, HW.out, if_pos (show (true && true) = true from rfl), if_pos (by have := HL2.out; omega)]
  rw [HA.out]
  go_enter Try.func40, Try.ntmps40
  go_wp2_with fail
  refine (l10Is_is b off n c es xs true HV.out _ hs hr HD.out HL.out hn HT.out).mono ?_
  rintro e w' ⟨rfl, rfl⟩
  go_wp2_with fail
  refine (l03Is_is b1 o1 n1 c1 x true HW.out _ hs1 HL1.out (by omega)).mono ?_
  rintro e w' ⟨rfl, rfl⟩
  go_wp2_with fail
  refine (l00OwnA_any b1 o1 n1 c1 x w hs1 HL1.out (by omega)).mono ?_
  rintro e w2 ⟨g0, d0, rfl, hown0, hB0, hd0⟩
  go_wp2_with fail
  go_loopw [8, 9] (fun vv i wr => ∃ (k m : Nat) (y : List Int), k ≤ n2 ∧ i = .int .i64 k ∧ m ≤ 400 ∧ wr.ownsRow w.heap.size 2 1 vv m (y.map (.int .i64)) ∧ Below w.heap.size w wr ∧ Hid (y.length = m) ∧ Hid (deriveGo xs ts x = deriveGo xs (ts.drop k) y) ∧ Hid (isWordB y = true) ∧ ∃ g d, vv = .slice (some ⟨g, 0, none⟩) m d ∧ m ≤ d) (fun _ i _ => n2 - (intOf i).toNat)
  case atStart => exact ⟨0, n1, x, Nat.zero_le _, rfl, hw4, hown0, hB0, HL1, rfl, HW, g0, d0, rfl, hd0⟩
  case round =>
    obtain ⟨k, m, y, hk, rfl, hm4, hown, hB, HY, HQ, HWY, hyg⟩ := hrel
    clear hown0 hB0
    by_cases hlt : k < n2
    rotate_left
    · have HF : Hid (deriveGo xs ts x = (y, 0)) := by unfold Hid; rw [HQ.out, List.drop_of_length_le (by have := HL2.out; omega)]; rfl
      obtain ⟨A, d, rfl⟩ := own_form hown
      go_wp2_with fail
      go_ret2
      exact ⟨_, ends2 (by rw [HF.out]), own_fit HF.out HY.out hown, hB⟩
    obtain ⟨v, hv1⟩ : ∃ v, vs[k]? = some v := ⟨_, List.getElem?_eq_getElem (by have := hvl.out; have := HL2.out; omega)⟩
    obtain ⟨t, ht1⟩ : ∃ t, ts[k]? = some t := ⟨_, List.getElem?_eq_getElem (by have := HL2.out; omega)⟩
    have hsrc := (hv2.below hB).2 k v t hv1 ht1
    have hca := (hs2.below' hB).at hv1
    have HD9 : Hid (ts.drop k = t :: ts.drop (k + 1)) := drop_at ht1
    have HT9 := Lib.hid ht1
    clear hv1 ht1
    have htl : t.length ≤ 1048576 := Nat.le_trans (len_le_sum HT9.out) hsum
    by_cases h2 : t.length = 2
    rotate_left
    · have HF : Hid (deriveGo xs ts x = ([], 7)) := by unfold Hid; rw [HQ.out, HD9.out, deriveGo_bad h2]
      obtain ⟨A9, c9, rfl⟩ := hsrc.form
      obtain ⟨n9, hn9⟩ : ∃ n9, n9 = t.length := ⟨_, rfl⟩
      rw [← hn9] at hca htl h2
      obtain ⟨A, d, rfl⟩ := own_form hown
      clear hsrc hn9
      go_wp2_with fail
      go_ret2
      exact ⟨_, ends2 (by rw [HF.out]), own_nil' HF.out, hB⟩
    obtain ⟨p, q, rfl⟩ := pair_of h2
    obtain ⟨b9, o9, c9, rfl, q0, q1⟩ := src_pair hsrc
    obtain ⟨⟨z, cd⟩, hz⟩ : ∃ r, r = applyAt xs y p q := ⟨_, rfl⟩
    obtain ⟨g5, d5, rfl, hd5⟩ := hyg
    have hpq := HWF.out _ (List.mem_of_getElem? HT9.out)
    have hBd : Below w.heap.size w wr.drew := hB.drew
    have HST := specApplyRewrite_w b off n c es xs g5 0 m d5 y p q wr.drew (by exact hs.below' hBd) (by exact hr.below hBd) HD.out HL.out hn HT.out (by exact sl_of_own hown) HY.out (by omega) hd5 (hpq p (by simp)) (hpq q (by simp))
    have hzl : z.length ≤ 400 := by have := applyAt_len xs y p q; rw [← hz] at this; exact this
    have hEQ : applyRewrite xs y p q = applyAt xs y p q := by unfold applyRewrite; rw [HV.out, HWY.out]; rfl
    rw [hEQ, ← hz] at HST
    have HST := Lib.hid HST
    clear hpq hEQ
    by_cases hc : cd = 0
    · subst hc
      have HN : Hid (deriveGo xs ts x = deriveGo xs (ts.drop (k + 1)) z) := by unfold Hid; rw [HQ.out, HD9.out, deriveGo_yes hz.symm]
      have HWZ : Hid (isWordB z = true) := by unfold Hid; have := applyAt_word (xs := xs) (w := y) (rule := p) (at' := q) HV.out HWY.out (by rw [← hz]); rw [← hz] at this; exact this
      clear hz hsrc h2 htl
      go_wp2_with fail
      obtain ⟨mz, hmz⟩ : ∃ q, q = z.length := ⟨_, rfl⟩
      have HMZ := Lib.hid hmz.symm
      try dsimp only at HST
      rw [← hmz] at HST hzl
      clear hmz
      go_region_held3 (fun W => W.cell? ⟨b9, o9, none⟩ = some (.int .i64 p) ∧ W.cell? ⟨b9, o9 + 1, none⟩ = some (.int .i64 q) ∧ W.cell? ⟨b2, o2 + k, none⟩ = some (.slice (some ⟨b9, o9, none⟩) 2 c9)) (first | go_keep | exact ⟨r0, r1, r2⟩)
        ((go_at_call 22; refine HST.out.mono ?_; rintro e w3 ⟨v3, rfl, own3, b3, hv3⟩; have b4 := below_drew_at b3; have r0 := cell_step (by exact q0) b4; have r1 := cell_step (by exact q1) b4; have r2 := cell_step (by exact hca) b4; have B3 := below_step hB b4; have own4 := own_base own3 hB.size; obtain ⟨g6, d6, rfl, hd6⟩ := hv3 trivial))
      all_goals
        clear hown own3 b3 b4 hB q0 q1 r0 r1 r2 hca hv3
        go_wp2_with fail
        go_roundw
        case rel => exact ⟨k + 1, mz, z, by omega, by go_num, hzl, own4, B3, HMZ, HN, HWZ, g6, d6, rfl, hd6⟩
        case measure => simp [intOf]; omega
    · have HF : Hid (deriveGo xs ts x = ([], 7)) := by unfold Hid; rw [HQ.out, HD9.out, deriveGo_no hz.symm hc]
      have hcd : (cd != 0) = true := by simpa using hc
      clear hz hsrc h2 htl
      go_wp2_with fail
      go_region_held3 (fun W => W.cell? ⟨b9, o9, none⟩ = some (.int .i64 p) ∧ W.cell? ⟨b9, o9 + 1, none⟩ = some (.int .i64 q) ∧ W.cell? ⟨b2, o2 + k, none⟩ = some (.slice (some ⟨b9, o9, none⟩) 2 c9)) (first | go_keep | exact ⟨r0, r1, r2⟩)
        ((go_at_call 22; refine HST.out.mono ?_; rintro e w3 ⟨v3, rfl, own3, b3, hv3⟩; have b4 := below_drew_at b3; have r0 := cell_step (by exact q0) b4; have r1 := cell_step (by exact q1) b4; have r2 := cell_step (by exact hca) b4; have B3 := below_step hB b4; obtain ⟨A3, d3, rfl⟩ := own_form own3))
      all_goals
        clear q0 q1 r0 r1 r2 hca hv3
        go_wp2_with fail
        go_ret2
        exact ⟨_, ends2 (by rw [HF.out]), own_nil' HF.out, B3⟩
end Go.Proofs.Yteocnkiagifmfaa
