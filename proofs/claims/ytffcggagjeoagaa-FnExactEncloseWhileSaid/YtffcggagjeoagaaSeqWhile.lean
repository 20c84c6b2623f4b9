/- SequenceWhile on both sides. -/
import Derived.Test.YtffcggagjeoagaaOwnWhile
import Derived.Test.YtffcggagjeoagaaConcatCommand
import Derived.Test.YtffcggagjeoagaaValidWhile
namespace Go.Proofs.Ytffcggagjeoagaa
open Go.RowKit
set_option linter.all false

def seqWhile (a b : List DCommand) : List DCommand × Int := if validWhile a = true ∧ validWhile b = true then fitW (a ++ b) else ([], 1)
theorem seqWhile_a {a b : List DCommand} (h : validWhile a = false) : seqWhile a b = ([], 1) := by unfold seqWhile; rw [if_neg (by rw [h]; simp)]
theorem seqWhile_b {a b : List DCommand} (h : validWhile b = false) : seqWhile a b = ([], 1) := by unfold seqWhile; rw [if_neg (by rw [h]; simp)]
theorem seqWhile_ok {a b : List DCommand} (h : validWhile a = true) (h2 : validWhile b = true) : seqWhile a b = fitW (a ++ b) := by unfold seqWhile; rw [if_pos ⟨h, h2⟩]
theorem sumCommand_app (a b : List DCommand) : sumCommand (a ++ b) = sumCommand a + sumCommand b := by simp [sumCommand]
theorem fitW_le (xs : List DCommand) (h : sumCommand xs ≤ 2097152) : (fitW xs).1.length ≤ 1048576 ∧ sumCommand (fitW xs).1 ≤ 2097152 := by
  unfold fitW
  split
  · rename_i hh
    exact ⟨by simp only; omega, h⟩
  · exact ⟨by simp, by simp [sumCommand]⟩
theorem bndSequenceWhile0 (a b : List DCommand) (h1 : a.length ≤ 1048576) (s1 : sumCommand a ≤ 1048576) (h2 : b.length ≤ 1048576) (s2 : sumCommand b ≤ 1048576) : (seqWhile a b).1.length ≤ 1048576 ∧ sumCommand (seqWhile a b).1 ≤ 2097152 := by
  unfold seqWhile
  split
  · exact fitW_le _ (by rw [sumCommand_app]; omega)
  · exact ⟨by simp, by simp [sumCommand]⟩
theorem validWhile_len {xs : List DCommand} (h : validWhile xs = true) : xs.length ≤ 80 := by
  unfold validWhile at h; rw [Bool.and_eq_true] at h; exact of_decide_eq_true h.1

theorem sumCommand_max {m : Nat} : ∀ {xs : List DCommand}, (∀ x ∈ xs, x.f3.length ≤ m) → sumCommand xs ≤ xs.length * m := by
  intro xs
  induction xs with
  | nil => intro _; simp [sumCommand]
  | cons x l ih =>
    intro h
    have h1 := h x (List.mem_cons_self ..)
    have h2 := ih fun y hy => h y (List.mem_cons_of_mem _ hy)
    simp only [sumCommand, List.map_cons, List.sum_cons, wlCommand, List.length_cons, Nat.succ_mul] at h2 ⊢
    omega
theorem validWhile_sum {xs : List DCommand} (h : validWhile xs = true) : sumCommand xs ≤ 3200 := by
  have h1 := validWhile_len h
  have h2 : validCs xs = true := by unfold validWhile at h; rw [Bool.and_eq_true] at h; exact h.2
  have h3 := sumCommand_max (m := 40) fun x hx => (validE_pos (validCs_all _ xs rfl h2 x hx)).2
  omega

theorem SGrid.widen {E : Type} {K : Knd E} {lo base hi hi' : Nat} {T Te : TypeId} {s : Nat} {V : Value} {es : List E} {W : World} (h : SGrid K base hi T Te s V es W) (hl : lo ≤ base) (hh : hi ≤ hi') : SGrid K lo hi' T Te s V es W :=
  ⟨own_base h.own hl, (h.inn.lower hl).wide hh, fun k hk => Nat.lt_of_lt_of_le (h.top k hk) hh⟩
theorem one_rows_Command {w : World} {es : List ECommand} (hr : RdsCommand w es) : ∀ u ∈ rows ECommand.vs es, u.oneCell' = true := by
  intro u hu
  simp only [rows, List.mem_flatMap, ECommand.vs] at hu
  obtain ⟨e, he, hu⟩ := hu
  obtain ⟨⟨A, c, e1, _⟩, -⟩ := hr e he
  simp at hu
  rcases hu with rfl | rfl | rfl | rfl
  · rfl
  · rfl
  · rfl
  · rw [e1]; rfl

theorem l22Fit_ok (A : Option Addr) (n c : Nat) (w : World) (h : n ≤ 80) : Calls Try.prog 84 #[.slice A n c] w fun z w' => z = .returned (.tuple #[.slice A n c, .int .i64 0]) ∧ w = w' := by
  go_enter Try.func84, Try.ntmps84
  go_wp2
  go_ret2
  exact ⟨rfl, rfl⟩
theorem l22Fit_no (A : Option Addr) (n c : Nat) (w : World) (h : ¬ n ≤ 80) : Calls Try.prog 84 #[.slice A n c] w fun z w' => z = .returned (.tuple #[.slice none 0 0, .int .i64 5]) ∧ w = w' := by
  go_enter Try.func84, Try.ntmps84
  go_wp2
  go_ret2
  exact ⟨rfl, rfl⟩

set_option maxRecDepth 100000 in
set_option maxHeartbeats 1000000 in
theorem implSequenceWhile_any (b0 o0 n0 c0 : Nat) (e0 : List ECommand) (x0 : List DCommand) (b1 o1 n1 c1 : Nat) (e1 : List ECommand) (x1 : List DCommand) (w : World) (s0 : Sl w b0 o0 (rows ECommand.vs e0)) (r0 : RdsCommand w e0) (d0 : e0.map (·.d) = x0) (h0 : x0.length = n0) (m0 : n0 ≤ 1048576) (hc0 : n0 ≤ c0) (t0 : sumCommand x0 ≤ 1048576) (wf0 : ∀ x ∈ x0, x.wf)
    (s1 : Sl w b1 o1 (rows ECommand.vs e1)) (r1 : RdsCommand w e1) (d1 : e1.map (·.d) = x1) (h1 : x1.length = n1) (m1 : n1 ≤ 1048576) (hc1 : n1 ≤ c1) (t1 : sumCommand x1 ≤ 1048576) (wf1 : ∀ x ∈ x1, x.wf) :
    Calls Try.prog 51 #[.slice (some ⟨b0, o0, none⟩) n0 c0, .slice (some ⟨b1, o1, none⟩) n1 c1] w fun z w' => ∃ v es, z = .returned (.tuple #[v, .int .i64 (seqWhile x0 x1).2]) ∧ SGrid kndCommand w.heap.size w'.heap.size 93 101 2 v es w' ∧ es.map (·.d) = (seqWhile x0 x1).1 ∧ Below w.heap.size w w' := by
  have H0 := Lib.hid h0; have H1 := Lib.hid h1; have D0 := Lib.hid d0; have D1 := Lib.hid d1
  have l0 : e0.length = n0 := by rw [← h0, ← d0, List.length_map]
  have l1 : e1.length = n1 := by rw [← h1, ← d1, List.length_map]
  have V0 := fun W (hb : Below w.heap.size w W) => implValidWhile_any b0 o0 n0 c0 e0 x0 W (s0.below' hb) (r0.below hb) d0 h0 m0 hc0 t0 wf0
  have V1 := fun W (hb : Below w.heap.size w W) => implValidWhile_any b1 o1 n1 c1 e1 x1 W (s1.below' hb) (r1.below hb) d1 h1 m1 hc1 t1 wf1
  have VV0 := Lib.hid V0; have VV1 := Lib.hid V1
  clear V0 V1 d0 d1 h0 h1
  rcases Bool.eq_false_or_eq_true (validWhile x0) with hv0 | hv0
  rotate_left
  · have HE : Hid (seqWhile x0 x1 = ([], 1)) := seqWhile_a hv0
    rw [hv0] at VV0
    go_enter Try.func51, Try.ntmps51
    go_wp2_with fail
    refine (VV0.out _ (Below.refl _ _)).mono ?_
    rintro z w1 ⟨rfl, b1⟩
    go_wp2
    go_ret2
    rw [HE.out]
    exact ⟨_, [], rfl, SGrid.nil _ _ _ _ _ _ _, rfl, b1⟩
  rcases Bool.eq_false_or_eq_true (validWhile x1) with hv1 | hv1
  rotate_left
  · have HE : Hid (seqWhile x0 x1 = ([], 1)) := seqWhile_b hv1
    rw [hv0] at VV0
    rw [hv1] at VV1
    go_enter Try.func51, Try.ntmps51
    go_wp2_with fail
    refine (VV0.out _ (Below.refl _ _)).mono ?_
    rintro z w1 ⟨rfl, b1⟩
    go_wp2_with fail
    refine (VV1.out _ b1).mono ?_
    rintro z w2 ⟨rfl, b2⟩
    have B2 := below_step b1 b2
    go_wp2
    go_ret2
    rw [HE.out]
    exact ⟨_, [], rfl, SGrid.nil _ _ _ _ _ _ _, rfl, B2⟩
  have HE : Hid (seqWhile x0 x1 = fitW (x0 ++ x1)) := seqWhile_ok hv0 hv1
  have F0 := full_of D0.out hv0
  have F1 := full_of D1.out hv1
  have hm0 := validWhile_len hv0
  have hs0 := validWhile_sum hv0
  have hs1 := validWhile_sum hv1
  have hm1 := validWhile_len hv1
  rw [H0.out] at hm0
  rw [H1.out] at hm1
  rw [hv0] at VV0
  rw [hv1] at VV1
  clear hv0 hv1
  go_enter Try.func51, Try.ntmps51
  go_wp2_with fail
  refine (VV0.out _ (Below.refl _ _)).mono ?_
  rintro z w1 ⟨rfl, b1⟩
  go_wp2_with fail
  refine (VV1.out _ b1).mono ?_
  rintro z w2 ⟨rfl, b2⟩
  have B2 := below_step b1 b2
  clear b1 b2
  obtain ⟨w3, HW3, B3, y3⟩ := al1 w2 (.cells #[.slice (some ⟨b0, o0, none⟩) n0 c0, .slice (some ⟨b1, o1, none⟩) n1 c1] 49)
  have B23 := below_step B2 B3
  have HC := concatCommand_any w2.heap.size 0 2 [.slice (some ⟨b0, o0, none⟩) n0 c0, .slice (some ⟨b1, o1, none⟩) n1 c1] [n0, n1] [rows ECommand.vs e0, rows ECommand.vs e1] w3
    ⟨heap_lt y3, fun j u hu => by
      rw [Nat.zero_add, cell_of_heap y3]
      match j, hu with
      | 0, hu => simpa using hu
      | 1, hu => simpa using hu⟩
    ⟨rfl, rfl, fun j v n xs h1 h2 h3 => by
      match j, h1, h2, h3 with
      | 0, h1, h2, h3 =>
        simp at h1 h2 h3
        subst h1 h2 h3
        exact ⟨Src.of_sl (s0.below' B23) (by rw [rows_len (s := 4) (fun _ => rfl), l0]), one_rows_Command r0⟩
      | 1, h1, h2, h3 =>
        simp at h1 h2 h3
        subst h1 h2 h3
        exact ⟨Src.of_sl (s1.below' B23) (by rw [rows_len (s := 4) (fun _ => rfl), l1]), one_rows_Command r1⟩⟩ (by simp; omega) (by simp)
  simp only [List.length_cons, List.length_nil, List.sum_cons, List.sum_nil, List.flatten_cons, List.flatten_nil, List.append_nil, Nat.add_zero, Nat.zero_add, Nat.reduceAdd] at HC
  have HCC := Lib.hid HC; clear HC
  go_wp2_with fail
  rw [← HW3.out]
  refine HCC.out.mono ?_
  rintro z w4 ⟨v, rfl, own4, b4, -⟩
  obtain ⟨A, c, rfl⟩ := own_form own4
  have B4 := below_step B23 b4
  rw [← rows_app] at own4
  have hR : RdsCommand w4 (e0 ++ e1) := fun e he => by
    rcases List.mem_append.1 he with he | he
    · exact (r0 e he).below B4
    · exact (r1 e he).below B4
  have hF : Full (e0 ++ e1) := fun e he => by
    rcases List.mem_append.1 he with he | he
    · exact F0 e he
    · exact F1 e he
  go_wp2_with fail
  refine (shortWhile_any A (n0 + n1) c (e0 ++ e1) (x0 ++ x1) _ (args_of_own own4) hR hF (by rw [List.map_append, D0.out, D1.out]) (by rw [List.length_append, H0.out, H1.out]) (by omega) (by rw [sumCommand_app]; omega)).mono ?_
  rintro z w5 ⟨⟨v5, es5, rfl, hg, hd⟩, b5⟩
  have B5 := below_step B4 b5
  have HD5 := Lib.hid hd; clear hd
  go_wp2
  go_ret2
  rw [HE.out]
  exact ⟨_, es5, rfl, hg.widen B4.size (Nat.le_refl _), HD5.out, B5⟩

set_option maxRecDepth 100000 in
set_option maxHeartbeats 1000000 in
theorem specSequenceWhile_any (b0 o0 n0 c0 : Nat) (e0 : List ECommand) (x0 : List DCommand) (b1 o1 n1 c1 : Nat) (e1 : List ECommand) (x1 : List DCommand) (w : World) (s0 : Sl w b0 o0 (rows ECommand.vs e0)) (r0 : RdsCommand w e0) (d0 : e0.map (·.d) = x0) (h0 : x0.length = n0) (m0 : n0 ≤ 1048576) (hc0 : n0 ≤ c0) (t0 : sumCommand x0 ≤ 1048576) (wf0 : ∀ x ∈ x0, x.wf)
    (s1 : Sl w b1 o1 (rows ECommand.vs e1)) (r1 : RdsCommand w e1) (d1 : e1.map (·.d) = x1) (h1 : x1.length = n1) (m1 : n1 ≤ 1048576) (hc1 : n1 ≤ c1) (t1 : sumCommand x1 ≤ 1048576) (wf1 : ∀ x ∈ x1, x.wf) :
    Calls Try.prog 50 #[.slice (some ⟨b0, o0, none⟩) n0 c0, .slice (some ⟨b1, o1, none⟩) n1 c1] w fun z w' => ∃ v es, z = .returned (.tuple #[v, .int .i64 (seqWhile x0 x1).2]) ∧ SGrid kndCommand w.heap.size w'.heap.size 93 101 2 v es w' ∧ es.map (·.d) = (seqWhile x0 x1).1 ∧ Below w.heap.size w w' := by
  have H0 := Lib.hid h0; have H1 := Lib.hid h1; have D0 := Lib.hid d0; have D1 := Lib.hid d1
  have l0 : e0.length = n0 := by rw [← h0, ← d0, List.length_map]
  have l1 : e1.length = n1 := by rw [← h1, ← d1, List.length_map]
  have V0 := fun W (hb : Below w.heap.size w W) => specIs_any b0 o0 n0 c0 e0 x0 W (s0.below' hb) (r0.below hb) d0 h0 m0 t0 _ rfl
  have V1 := fun W (hb : Below w.heap.size w W) => specIs_any b1 o1 n1 c1 e1 x1 W (s1.below' hb) (r1.below hb) d1 h1 m1 t1 _ rfl
  have VV0 := Lib.hid V0; have VV1 := Lib.hid V1
  clear V0 V1 d0 d1 h0 h1
  rcases Bool.eq_false_or_eq_true (validWhile x0) with hv0 | hv0
  rotate_left
  · have HE : Hid (seqWhile x0 x1 = ([], 1)) := seqWhile_a hv0
    rw [hv0] at VV0
    go_enter Try.func50, Try.ntmps50
    go_wp2_with fail
    refine (VV0.out _ (Below.refl _ _)).mono ?_
    rintro z w1 ⟨rfl, b1⟩
    go_wp2
    go_ret2
    rw [HE.out]
    exact ⟨_, [], rfl, SGrid.nil _ _ _ _ _ _ _, rfl, b1⟩
  rcases Bool.eq_false_or_eq_true (validWhile x1) with hv1 | hv1
  rotate_left
  · have HE : Hid (seqWhile x0 x1 = ([], 1)) := seqWhile_b hv1
    rw [hv0] at VV0
    rw [hv1] at VV1
    go_enter Try.func50, Try.ntmps50
    go_wp2_with fail
    refine (VV0.out _ (Below.refl _ _)).mono ?_
    rintro z w1 ⟨rfl, b1⟩
    go_wp2_with fail
    refine (VV1.out _ b1).mono ?_
    rintro z w2 ⟨rfl, b2⟩
    have B2 := below_step b1 b2
    go_wp2
    go_ret2
    rw [HE.out]
    exact ⟨_, [], rfl, SGrid.nil _ _ _ _ _ _ _, rfl, B2⟩
  have HE : Hid (seqWhile x0 x1 = fitW (x0 ++ x1)) := seqWhile_ok hv0 hv1
  have F0 := full_of D0.out hv0
  have F1 := full_of D1.out hv1
  have hm0 := validWhile_len hv0
  have hs0 := validWhile_sum hv0
  have hs1 := validWhile_sum hv1
  have hm1 := validWhile_len hv1
  rw [H0.out] at hm0
  rw [H1.out] at hm1
  rw [hv0] at VV0
  rw [hv1] at VV1
  clear hv0 hv1
  have HI := Lib.hid infoCommand
  have HLX : Hid ((x0 ++ x1).length = n0 + n1) := by unfold Hid; rw [List.length_append, H0.out, H1.out]
  by_cases h8 : n0 + n1 ≤ 80
  all_goals
    have HFT : Hid (fitW (x0 ++ x1) = if n0 + n1 ≤ 80 then (x0 ++ x1, 0) else ([], 5)) := by unfold Hid fitW; rw [HLX.out]
    first | rw [if_pos h8] at HFT | rw [if_neg h8] at HFT
    go_enter Try.func50, Try.ntmps50
    go_wp2_with fail
    refine (VV0.out _ (Below.refl _ _)).mono ?_
    rintro z w1 ⟨rfl, b1⟩
    go_wp2_with fail
    refine (VV1.out _ b1).mono ?_
    rintro z w2 ⟨rfl, b2⟩
    have B2 := below_step b1 b2
    clear b1 b2
    go_wp2_with fail
    refine (l22Own_any _ n0 c0 e0 _ (Args.of_sl (s0.below' B2) (by rw [rows_len (s := 4) (fun _ => rfl), l0])) (r0.below B2) F0 m0 (by rw [D0.out]; exact t0)).mono ?_
    rintro z w3 ⟨⟨v3, es3, rfl, g3, d3⟩, b3⟩
    have B3 := below_step B2 b3
    obtain ⟨A3, c3, rfl⟩ := own_form g3.own
    have E3 := Lib.hid (d3.trans D0.out); clear d3
    have L3 : Hid (es3.length = n0) := by have := congrArg List.length E3.out; rw [List.length_map, H0.out] at this; exact this
    rw [L3.out] at g3 ⊢
    go_wp2_with fail
    refine (l22Own_any _ n1 c1 e1 _ (Args.of_sl (s1.below' B3) (by rw [rows_len (s := 4) (fun _ => rfl), l1])) (r1.below B3) F1 m1 (by rw [D1.out]; exact t1)).mono ?_
    rintro z w4 ⟨⟨v4, es4, rfl, g4, d4⟩, b4⟩
    have B4 := below_step B3 b4
    obtain ⟨A4, c4, rfl⟩ := own_form g4.own
    have E4 := Lib.hid (d4.trans D1.out); clear d4
    have L4 : Hid (es4.length = n1) := by have := congrArg List.length E4.out; rw [List.length_map, H1.out] at this; exact this
    rw [L4.out] at g4 ⊢
    have g3' := g3.below b4
    have own3 : w4.ownsRow w2.heap.size 93 4 (.slice A3 n0 c3) n0 (rows ECommand.vs es3) := by have := g3'.own; rw [L3.out] at this; exact this
    have own4 : w4.ownsRow w3.heap.size 93 4 (.slice A4 n1 c4) n1 (rows ECommand.vs es4) := by have := g4.own; rw [L4.out] at this; exact this
    have src4 : Src 4 w4 (.slice A4 n1 c4) n1 (rows ECommand.vs es4) := Src.of_own own4
    have HO4 := Lib.hid (one_rows_Command (rdsCommand_of g4))
    have hbase : w2.heap.size ≤ w4.heap.size := Nat.le_trans b3.size b4.size
    have HIN := Lib.hid (Inn.append g3'.inn g4.inn b3.size b4.size)
    have HB2 := Lib.hid B2
    have b24 := below_step b3 b4
    clear g3 g3' g4 own4 b3 b4 B3 B4
    go_wp2_with (at_builtin; refine wpList_appx rfl _ _ _ rfl Try.underlying49 HI.out rfl (by omega) w2.heap.size own3 hbase rfl src4 rfl HO4.out (by unfold maxLen; omega) (by omega) ?_; intro v5 w5 own5 hg5 hnil5; clear hnil5; obtain ⟨A5, c5, rfl⟩ := own_form own5; have b25 := grown_below b24 own3 (Nat.le_refl _) hg5; have HI5 := Lib.hid ((HIN.out.kept own3 hg5 (by decide)).wide hg5.size); rw [← rows_app] at own5; clear own3 src4 hg5 b24)
    first
    | (refine (l22Fit_ok _ _ _ _ h8).mono ?_
       rintro z w6 ⟨rfl, rfl⟩
       go_wp2
       go_ret2
       rw [HE.out, HFT.out]
       refine ⟨_, es3 ++ es4, rfl, SGrid.widen (base := w2.heap.size) (hi := w5.heap.size) ⟨?_, ?_, fun q hq => (own5.lt q hq).2⟩ HB2.out.size (Nat.le_refl _), ?_, below_step HB2.out b25⟩
       · rw [List.length_append, L3.out, L4.out]; exact own5
       · rw [List.flatMap_append, List.flatMap_append]; exact HI5.out
       · rw [List.map_append, E3.out, E4.out])
    | (refine (l22Fit_no _ _ _ _ h8).mono ?_
       rintro z w6 ⟨rfl, rfl⟩
       go_wp2
       go_ret2
       rw [HE.out, HFT.out]
       exact ⟨_, [], rfl, SGrid.nil _ _ _ _ _ _ _, rfl, below_step HB2.out b25⟩)

end Go.Proofs.Ytffcggagjeoagaa
