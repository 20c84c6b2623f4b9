/- The reference's BranchWhile where it does not refuse (UNDER WAY). -/
import Derived.Test.YtfmfpknigafnoaaBranchNo
namespace Go.Proofs.Ytfmfpknigafnoaa
open Go.RowKit
set_option linter.all false

set_option maxRecDepth 100000 in
set_option maxHeartbeats 2000000 in
theorem specBranchYes_any (b0 o0 n0 c0 : Nat) (x0 : List R2) (b1 o1 n1 c1 : Nat) (e1 : List ECommand) (x1 : List DCommand) (b2 o2 n2 c2 : Nat) (e2 : List ECommand) (x2 : List DCommand) (f s : Int) (w : World) (s0 : Sl w b0 o0 (rows R2.vs x0)) (h0 : x0.length = n0) (m0 : n0 ≤ 1048576)
    (s1 : Sl w b1 o1 (rows ECommand.vs e1)) (r1 : RdsCommand w e1) (d1 : e1.map (·.d) = x1) (h1 : x1.length = n1) (m1 : n1 ≤ 1048576) (t1 : sumCommand x1 ≤ 1048576)
    (s2 : Sl w b2 o2 (rows ECommand.vs e2)) (r2 : RdsCommand w e2) (d2 : e2.map (·.d) = x2) (h2 : x2.length = n2) (m2 : n2 ≤ 1048576) (t2 : sumCommand x2 ≤ 1048576)
    (g0 : validE x0 = true) (g1 : validWhile x1 = true) (g2 : validWhile x2 = true) (q0 : inB f 0 5 = true) (q1 : inB s 0 5 = true) (q2 : f ≠ s) :
    Calls Try.prog 11 #[.slice (some ⟨b0, o0, none⟩) n0 c0, .slice (some ⟨b1, o1, none⟩) n1 c1, .slice (some ⟨b2, o2, none⟩) n2 c2, .int .i64 f, .int .i64 s] w fun z w' => ∃ v es, z = .returned (.tuple #[v, .int .i64 (fitW (brW x0 x1 x2 f s)).2]) ∧ SGrid kndCommand w.heap.size w'.heap.size 87 85 2 v es w' ∧ es.map (·.d) = (fitW (brW x0 x1 x2 f s)).1 ∧ Below w.heap.size w w' := by
  have hs1 := validWhile_sum g1
  have hs2 := validWhile_sum g2
  have hl1 := validWhile_len g1
  have hl2 := validWhile_len g2
  have F1 := full_of d1 g1
  have F2 := full_of d2 g2
  rw [h1] at hl1
  rw [h2] at hl2
  have H0 := Lib.hid h0; have H1 := Lib.hid h1; have H2 := Lib.hid h2; have D1 := Lib.hid d1; have D2 := Lib.hid d2
  have G0 := Lib.hid g0
  have Q0 := Lib.hid q0; have Q1 := Lib.hid q1
  have V1 := Lib.hid (specIs_any b1 o1 n1 c1 e1 x1 w s1 r1 d1 h1 m1 t1 _ g1)
  have V2 := Lib.hid fun W (hb : Below w.heap.size w W) => specIs_any b2 o2 n2 c2 e2 x2 W (s2.below' hb) (r2.below hb) d2 h2 m2 t2 _ g2
  have a0 := Args.of_sl (s := 2) (n := n0) s0 (by rw [rows_len R2.vs_len, h0])
  have e3 : (f == s) = false := by simpa using q2
  have HI := Lib.hid infoCommand
  have HI2 := Lib.hid infoExprW
  have HONE : Hid (∀ u ∈ rows R2.vs x0, u.oneCell' = true) := one_rows_Expr x0
  clear g0 g1 g2 q0 q1 q2 h0 h1 h2 d1 d2
  go_enter Try.func11, Try.ntmps11
  go_wp2_with fail
  refine (l22Expr_is _ n0 c0 x0 true G0.out _ a0 m0).mono ?_
  rintro z w' ⟨rfl, rfl⟩
  go_wp2_with fail
  refine V1.out.mono ?_
  rintro z w1 ⟨rfl, B1⟩
  go_wp2_with fail
  refine (V2.out _ B1).mono ?_
  rintro z w2 ⟨rfl, q2⟩
  have B2 := below_step B1 q2
  clear q2 B1 V1 V2
  go_wp2_with fail
  refine (l00In_is f 0 5 true Q0.out _).mono ?_
  rintro z w' ⟨rfl, rfl⟩
  go_wp2_with fail
  refine (l00In_is s 0 5 true Q1.out _).mono ?_
  rintro z w' ⟨rfl, rfl⟩
  -- regions 5 and 6: the short slice, and a copy of the expression
  obtain ⟨w3, HW3, B23, yN, yE⟩ := al2 w2 (.cells #[.int .i64 0, .int .i64 0] 85) (.cells #[] 85)
  have B3 := below_step B2 B23
  have HSZ : Hid (w3.heap.size = w2.heap.size + 1 + 1) := by unfold Hid; rw [HW3.out]; simp
  have ownE : w3.ownsRow (w2.heap.size + 1) 85 2 (.slice (some ⟨w2.heap.size + 1, 0, none⟩) 0 0) 0 [] :=
    ⟨by simp, .inr ⟨w2.heap.size + 1, 0, #[], rfl, Nat.le_refl _, yE, Nat.le_refl _, Nat.zero_le _, rfl, by simp⟩⟩
  have src0 : Src 2 w3 (.slice (some ⟨b0, o0, none⟩) n0 c0) n0 (rows R2.vs x0) := Src.of_sl (s0.below' B3) (by rw [rows_len R2.vs_len, H0.out])
  go_wp2_with (at_builtin; rw [← HW3.out]; refine wpList_appx rfl _ _ _ rfl Try.underlying29 HI2.out rfl (by omega) (w2.heap.size + 1) ownE (by have := HSZ.out; omega) rfl src0 rfl HONE.out (by unfold maxLen; omega) (by omega) ?_; intro v4 w4 own4 hg4 hnil4; clear hnil4; rw [Nat.zero_add, List.nil_append] at own4; obtain ⟨A4, c4, rfl⟩ := own_form own4; have B4 := grown_below B3 ownE (by have := B2.size; omega) hg4; have xN := (hg4.block w2.heap.size (by have := HSZ.out; omega) (by intro h; simp [Value.ownBlock] at h)).trans yN; clear ownE src0 hg4 B3)
  refine (l22Set_any f A4 n0 c4 _).mono ?_
  rintro z w5 ⟨rfl, b5⟩
  go_wp2_with fail
  refine (l22Set_any s _ 3 3 _).mono ?_
  rintro z w6 ⟨rfl, b6⟩
  have HC := Lib.hid (own_laid w5 85 2 3 #[.int .i64 2, .int .i64 0, .int .i64 0, .int .i64 0, .int .i64 0, .int .i64 0] rfl (by unfold maxLen; omega))
  have B5 := below_step B4 b5
  go_wp2_with fail
  refine (l22Set_any f _ 1 1 _).mono ?_
  rintro z w8 ⟨rfl, b8⟩
  go_wp2_with fail
  refine (l22Set_any s _ 1 1 _).mono ?_
  rintro z w9 ⟨rfl, b9⟩
  have b69 := below_step (below_step (laid_below w6 _) b8) b9
  have b59 := below_step (below_step (laid_below w5 _) b6) b69
  have B9 := below_step B5 b59
  have ownT := own_laid w9 87 4 2 #[.int .i64 0, .int .i64 f, .int .i64 0, .slice (some ⟨w2.heap.size, 0, none⟩) 1 1, .int .i64 0, .int .i64 s, .int .i64 0, .slice (some ⟨w2.heap.size, 0, none⟩) 1 1] rfl (by unfold maxLen; omega)
  have bT := laid_below w9 (.cells #[.int .i64 0, .int .i64 f, .int .i64 0, .slice (some ⟨w2.heap.size, 0, none⟩) 1 1, .int .i64 0, .int .i64 s, .int .i64 0, .slice (some ⟨w2.heap.size, 0, none⟩) 1 1] 87)
  have srcY : Src 4 (w9.alloc (.cells #[.int .i64 0, .int .i64 f, .int .i64 0, .slice (some ⟨w2.heap.size, 0, none⟩) 1 1, .int .i64 0, .int .i64 s, .int .i64 0, .slice (some ⟨w2.heap.size, 0, none⟩) 1 1] 87)) (.slice (some ⟨b1, o1, none⟩) n1 c1) n1 (rows ECommand.vs e1) := Src.of_sl (s1.below' (below_step B9 bT)) (by rw [rows_len (s := 4) (fun _ => rfl)]; have := congrArg List.length D1.out; rw [List.length_map, H1.out] at this; rw [this])
  have HOY := Lib.hid (one_rows_Command r1)
  obtain ⟨p, HP, hp82⟩ : ∃ p, Hid (2 + n1 = p) ∧ p ≤ 82 := ⟨_, rfl, by omega⟩
  obtain ⟨q, HQ, hq81⟩ : ∃ q, Hid (1 + n2 = q) ∧ q ≤ 81 := ⟨_, rfl, by omega⟩
  obtain ⟨m15, HM15, hm15⟩ : ∃ m, Hid (2 + (1 + p) = m) ∧ m ≤ 85 := ⟨_, rfl, by omega⟩
  go_wp2_with (at_builtin; refine wpList_appx rfl _ _ _ rfl Try.underlying26 HI.out rfl (by omega) w9.heap.size ownT bT.size rfl srcY rfl HOY.out (by unfold maxLen; omega) (by omega) ?_; intro v10 w10 own10 hg10 hnil10; clear hnil10; rw [HP.out] at own10; obtain ⟨A10, c10, rfl⟩ := own_form own10; have b910 := grown_below bT ownT (Nat.le_refl _) hg10; clear ownT bT srcY hg10)
  refine (l22Set_any s _ 1 1 _).mono ?_
  rintro z w11 ⟨rfl, b11⟩
  have B11 := below_step (below_step B9 b910) b11
  have ownU := own_laid w11 87 4 1 #[.int .i64 0, .int .i64 s, .int .i64 0, .slice (some ⟨w2.heap.size, 0, none⟩) 1 1] rfl (by unfold maxLen; omega)
  have bU := laid_below w11 (.cells #[.int .i64 0, .int .i64 s, .int .i64 0, .slice (some ⟨w2.heap.size, 0, none⟩) 1 1] 87)
  have srcN : Src 4 (w11.alloc (.cells #[.int .i64 0, .int .i64 s, .int .i64 0, .slice (some ⟨w2.heap.size, 0, none⟩) 1 1] 87)) (.slice (some ⟨b2, o2, none⟩) n2 c2) n2 (rows ECommand.vs e2) := Src.of_sl (s2.below' (below_step B11 bU)) (by rw [rows_len (s := 4) (fun _ => rfl)]; have := congrArg List.length D2.out; rw [List.length_map, H2.out] at this; rw [this])
  have HON := Lib.hid (one_rows_Command r2)
  go_wp2_with (at_builtin; refine wpList_appx rfl _ _ _ rfl Try.underlying26 HI.out rfl (by omega) w11.heap.size ownU bU.size rfl srcN rfl HON.out (by unfold maxLen; omega) (by omega) ?_; intro v12 w12 own12 hg12 hnil12; clear hnil12; rw [HQ.out] at own12; obtain ⟨A12, c12, rfl⟩ := own_form own12; have b1112 := grown_below bU ownU (Nat.le_refl _) hg12; clear ownU bU srcN hg12)
  refine (l22Var_any f _).mono ?_
  rintro z w13 ⟨⟨A13, rfl, own13⟩, b13⟩
  have b413 := below_step (below_step (below_step (below_step (below_step b5 b59) b910) b11) b1112) b13
  have B13 := below_step (below_step B11 b1112) b13
  have xN13 := (b413.block _ (heap_lt xN)).trans xN
  have argN : Args 2 w13 (some ⟨w2.heap.size, 0, none⟩) 1 (rows R2.vs [⟨0, 0⟩]) := Args.of_sl ⟨heap_lt xN13, fun j u hu => by
    rw [Nat.zero_add, cell_of_heap xN13]
    match j, hu with
    | 0, hu => simpa [rows, R2.vs] using hu
    | 1, hu => simpa [rows, R2.vs] using hu⟩ rfl
  obtain ⟨g13, rfl, _, _⟩ := own_addr0 own13 (by omega)
  have own1013 := own_below' own10 (below_step (below_step b11 b1112) b13)
  have rY : RdsCommand w13 ((⟨setD f [⟨0, 0⟩], (.slice (some ⟨w2.heap.size, 0, none⟩) 1 1)⟩ : ECommand) :: ⟨setD s [⟨0, 0⟩], (.slice (some ⟨w2.heap.size, 0, none⟩) 1 1)⟩ :: e1) := fun e he => by
    rcases List.mem_cons.1 he with rfl | he
    · exact ⟨⟨_, _, rfl, argN⟩, trivial⟩
    rcases List.mem_cons.1 he with rfl | he
    · exact ⟨⟨_, _, rfl, argN⟩, trivial⟩
    exact (r1 e he).below B13
  have fY : Full ((⟨setD f [⟨0, 0⟩], (.slice (some ⟨w2.heap.size, 0, none⟩) 1 1)⟩ : ECommand) :: ⟨setD s [⟨0, 0⟩], (.slice (some ⟨w2.heap.size, 0, none⟩) 1 1)⟩ :: e1) := fun e he => by
    rcases List.mem_cons.1 he with rfl | he
    · exact Nat.le_refl _
    rcases List.mem_cons.1 he with rfl | he
    · exact Nat.le_refl _
    exact F1 e he
  have l1 : e1.length = n1 := by have := congrArg List.length D1.out; rw [List.length_map, H1.out] at this; exact this
  go_wp2_with fail
  refine (l22Loop_any g13 0 1 1 [⟨1, f⟩] A10 p c10 ((⟨setD f [⟨0, 0⟩], (.slice (some ⟨w2.heap.size, 0, none⟩) 1 1)⟩ : ECommand) :: ⟨setD s [⟨0, 0⟩], (.slice (some ⟨w2.heap.size, 0, none⟩) 1 1)⟩ :: e1) _ (sl_of_own own13) rfl (by omega) (args_of_own (by exact own1013)) rY fY (by have := HP.out; simp only [List.length_cons]; omega) (by omega) (by simp only [List.map_cons, D1.out, sumCommand_cons, setD, List.length_cons, List.length_nil]; omega)).mono ?_
  rintro z w14 ⟨A14, c14, es14, rfl, g14, d14, b14⟩
  have b614 := below_step (below_step (below_step (below_step (below_step b8 (below_step b9 b910)) b11) b1112) b13) b14
  have ownO := own_below' (own_laid w6 87 4 2 #[.int .i64 0, .int .i64 f, .int .i64 0, .slice A4 n0 c4, .int .i64 0, .int .i64 s, .int .i64 0, .slice (some ⟨w5.heap.size, 0, none⟩) 3 3] rfl (by unfold maxLen; omega)) b614
  have HL14 : Hid (1 + p = es14.length) := g14.len
  have own14 : w14.ownsRow w13.heap.size 87 4 (.slice A14 (1 + p) c14) (1 + p) (rows ECommand.vs es14) := by have := g14.own; rw [← HL14.out] at this; exact this
  have src14 : Src 4 w14 (.slice A14 (1 + p) c14) (1 + p) (rows ECommand.vs es14) := Src.of_own own14
  have HO14 := Lib.hid (one_rows_Command (rdsCommand_of g14))
  have hb614 : w6.heap.size ≤ w14.heap.size := Nat.le_trans (laid_below w6 (.cells #[.int .i64 0, .int .i64 f, .int .i64 0, .slice A4 n0 c4, .int .i64 0, .int .i64 s, .int .i64 0, .slice (some ⟨w5.heap.size, 0, none⟩) 3 3] 87)).size b614.size
  go_wp2_with (at_builtin; refine wpList_appx rfl _ _ _ rfl Try.underlying26 HI.out rfl (by omega) w6.heap.size ownO hb614 rfl src14 rfl HO14.out (by unfold maxLen; omega) (by omega) ?_; intro v15 w15 own15 hg15 hnil15; clear hnil15; rw [HM15.out] at own15; obtain ⟨A15, c15, rfl⟩ := own_form own15)
  have hlt26 : w2.heap.size < w6.heap.size := Nat.lt_of_lt_of_le (heap_lt xN) (Nat.le_trans b5.size (Nat.le_trans (laid_below w5 _).size b6.size))
  have B15 := grown_below (below_step B13 b14) ownO (Nat.le_trans B5.size (Nat.le_trans (laid_below w5 (.cells #[.int .i64 2, .int .i64 0, .int .i64 0, .int .i64 0, .int .i64 0, .int .i64 0] 85)).size b6.size)) hg15
  have b614' : Below w6.heap.size w6 w14 := below_step (laid_below w6 _) b614
  have b615 := grown_below b614' ownO (Nat.le_refl _) hg15
  have own1214 := own_below' own12 (below_step b13 b14)
  have ap := own_apart' (own_laid w6 87 4 2 #[.int .i64 0, .int .i64 f, .int .i64 0, .slice A4 n0 c4, .int .i64 0, .int .i64 s, .int .i64 0, .slice (some ⟨w5.heap.size, 0, none⟩) 3 3] rfl (by unfold maxLen; omega)) own1214 (Nat.le_trans b8.size (Nat.le_trans b9.size (Nat.le_trans b910.size b11.size)))
  have own1215 := own1214.kept hg15 ap
  have xN14 := (b14.block _ (heap_lt xN13)).trans xN13
  have xN15 := (hg15.block w2.heap.size (heap_lt xN14) (by intro h; simp [Value.ownBlock] at h; omega)).trans xN14
  -- the inner rows, up to here
  have b46 := below_step b5 (below_step (laid_below w5 (.cells #[.int .i64 2, .int .i64 0, .int .i64 0, .int .i64 0, .int .i64 0, .int .i64 0] 85)) b6)
  have I4 := (Inn.nil 2 w.heap.size w.heap.size 85 w4).snoc (it := (n0, rows R2.vs x0)) own4 (by have := B2.size; omega) (by have := B2.size; omega) (Nat.le_refl _) B4.size
  have I6 := (I4.below b46).snoc (it := (3, rows R2.vs [⟨2, 0⟩, ⟨0, 0⟩, ⟨0, 0⟩])) (own_below' HC.out b6) b5.size (Nat.le_trans B4.size b5.size) (Nat.le_refl _) b46.size
  have h613 : w6.heap.size ≤ w13.heap.size := Nat.le_trans (laid_below w6 (.cells #[.int .i64 0, .int .i64 f, .int .i64 0, .slice A4 n0 c4, .int .i64 0, .int .i64 s, .int .i64 0, .slice (some ⟨w5.heap.size, 0, none⟩) 3 3] 87)).size (Nat.le_trans b8.size (Nat.le_trans b9.size (Nat.le_trans b910.size (Nat.le_trans b11.size (Nat.le_trans b1112.size b13.size)))))
  have I14 := ((I6.below b614').wide h613).append g14.inn B13.size b14.size
  have HI15 := Lib.hid (I14.kept ownO hg15 (by decide))
  have hs1415 := hg15.size
  have HD14 := Lib.hid d14; have L14 := Lib.hid HL14.out.symm
  clear I4 I6 I14 own4 HC g14 d14 ownO own14 src14 HO14 hg15 ap own1214 own12 own1013 own10 xN14 xN13 xN argN rY fY own13 b614 b614' b46 b5 b6 b8 b9 b69 b59 b910 b11 b1112 b13 b14 b413 hb614 B4 B9 B11 B13 hp82 h613
  refine (l22Var_any s _).mono ?_
  rintro z w16 ⟨⟨A16, rfl, own16⟩, b16⟩
  have B16 := below_step B15 b16
  have xN16 := (b16.block _ (heap_lt xN15)).trans xN15
  have argN : Args 2 w16 (some ⟨w2.heap.size, 0, none⟩) 1 (rows R2.vs [⟨0, 0⟩]) := Args.of_sl ⟨heap_lt xN16, fun j u hu => by
    rw [Nat.zero_add, cell_of_heap xN16]
    match j, hu with
    | 0, hu => simpa [rows, R2.vs] using hu
    | 1, hu => simpa [rows, R2.vs] using hu⟩ rfl
  obtain ⟨g16, rfl, _, _⟩ := own_addr0 own16 (by omega)
  have own1216 := own_below' own1215 b16
  have rN : RdsCommand w16 ((⟨setD s [⟨0, 0⟩], (.slice (some ⟨w2.heap.size, 0, none⟩) 1 1)⟩ : ECommand) :: e2) := fun e he => by
    rcases List.mem_cons.1 he with rfl | he
    · exact ⟨⟨_, _, rfl, argN⟩, trivial⟩
    exact (r2 e he).below B16
  have fN : Full ((⟨setD s [⟨0, 0⟩], (.slice (some ⟨w2.heap.size, 0, none⟩) 1 1)⟩ : ECommand) :: e2) := fun e he => by
    rcases List.mem_cons.1 he with rfl | he
    · exact Nat.le_refl _
    exact F2 e he
  have l2 : e2.length = n2 := by have := congrArg List.length D2.out; rw [List.length_map, H2.out] at this; exact this
  have HL2 := Lib.hid l2; clear l2
  go_wp2_with fail
  refine (l22Loop_any g16 0 1 1 [⟨1, s⟩] A12 q c12 ((⟨setD s [⟨0, 0⟩], (.slice (some ⟨w2.heap.size, 0, none⟩) 1 1)⟩ : ECommand) :: e2) _ (sl_of_own own16) rfl (by omega) (args_of_own (by exact own1216)) rN fN (by have := HQ.out; have := HL2.out; simp only [List.length_cons]; omega) (by omega) (by simp only [List.map_cons, D2.out, sumCommand_cons, setD, List.length_cons, List.length_nil]; omega)).mono ?_
  rintro z w17 ⟨A17, c17, es17, rfl, g17, d17, b17⟩
  have HL17 : Hid (1 + q = es17.length) := g17.len
  have own17 : w17.ownsRow w16.heap.size 87 4 (.slice A17 (1 + q) c17) (1 + q) (rows ECommand.vs es17) := by have := g17.own; rw [← HL17.out] at this; exact this
  have src17 : Src 4 w17 (.slice A17 (1 + q) c17) (1 + q) (rows ECommand.vs es17) := Src.of_own own17
  have HO17 := Lib.hid (one_rows_Command (rdsCommand_of g17))
  have b1517 := below_step b16 b17
  have own1517 := own_below' own15 b1517
  have hb617 : w6.heap.size ≤ w17.heap.size := Nat.le_trans b615.size b1517.size
  have b617 := below_step b615 b1517
  have hb6 : w.heap.size ≤ w6.heap.size := Nat.le_trans B2.size (Nat.le_of_lt hlt26)
  have I17 := ((HI15.out.below b1517).wide (Nat.le_trans hs1415 b16.size)).append g17.inn B16.size b17.size
  have HI17 := Lib.hid I17
  have HD17 := Lib.hid d17
  have HB17 := Lib.hid (below_step B16 b17)
  have HN18 : Hid ((brW x0 x1 x2 f s).length = m15 + (1 + q)) := by
    unfold Hid
    have := HM15.out; have := HP.out; have := HQ.out; have := H1.out; have := H2.out
    simp only [brW, loopD, List.length_append, List.length_cons, List.length_nil]
    omega
  obtain ⟨m18, HM18, hm18⟩ : ∃ m, Hid (m15 + (1 + q) = m) ∧ m ≤ 200 := ⟨_, rfl, by omega⟩
  have HES : Hid ((((⟨setD f x0, .slice A4 n0 c4⟩ : ECommand) :: ⟨setD s [⟨2, 0⟩, ⟨0, 0⟩, ⟨0, 0⟩], .slice (some ⟨w5.heap.size, 0, none⟩) 3 3⟩ :: (es14 ++ es17)).map (·.d)) = brW x0 x1 x2 f s) := by
    unfold Hid
    rw [List.map_cons, List.map_cons, List.map_append, HD14.out, HD17.out, List.map_cons, List.map_cons, List.map_cons, D1.out, D2.out]
    have h1 := HP.out; have h2 := HQ.out
    simp only [brW, loopD, List.cons_append, List.nil_append, List.length_cons, H1.out, H2.out]
    rw [← h1, ← h2, Nat.add_comm 2 n1, Nat.add_comm 1 n2]
  have HLES : Hid ((((⟨setD f x0, .slice A4 n0 c4⟩ : ECommand) :: ⟨setD s [⟨2, 0⟩, ⟨0, 0⟩, ⟨0, 0⟩], .slice (some ⟨w5.heap.size, 0, none⟩) 3 3⟩ :: (es14 ++ es17)).length) = m18) := by
    unfold Hid
    rw [← HM18.out, ← HN18.out, ← HES.out, List.length_map]
  have HN := Lib.hid (HN18.out.trans HM18.out)
  clear I17 d17 g17 own1216 own1215 own16 argN rN fN xN16 xN15 b16 b17 b1517 HN18 HD14 HD17 hs1415 own15
  by_cases h8 : m18 ≤ 80
  · have HFT : Hid (fitW (brW x0 x1 x2 f s) = if m18 ≤ 80 then (brW x0 x1 x2 f s, 0) else ([], 5)) := by unfold Hid fitW; rw [HN.out]
    rw [if_pos h8] at HFT
    go_wp2_with (at_builtin; refine wpList_appx rfl _ _ _ rfl Try.underlying26 HI.out rfl (by omega) w6.heap.size own1517 hb617 rfl src17 rfl HO17.out (by unfold maxLen; omega) (by omega) ?_; intro v18 w18 own18 hg18 hnil18; clear hnil18; rw [HM18.out] at own18; obtain ⟨A18, c18, rfl⟩ := own_form own18; have b618 := grown_below b617 own1517 (Nat.le_refl _) hg18; have B18 := grown_below HB17.out own1517 hb6 hg18; have HI18 := Lib.hid ((HI17.out.kept own1517 hg18 (by decide)).wide hg18.size); clear own1517 src17 hg18 b617)
    refine (l22Fit_ok _ _ _ _ h8).mono ?_
    rintro z w19 ⟨rfl, rfl⟩
    go_wp2
    go_ret2
    rw [HFT.out]
    refine ⟨.slice A18 m18 c18, _, rfl, SGrid.widen (base := w.heap.size) (hi := w18.heap.size) ⟨?_, ?_, fun k hk => (own18.lt k hk).2⟩ (Nat.le_refl _) (Nat.le_refl _), HES.out, B18⟩
    · rw [HLES.out]; simpa only [rows, List.flatMap_cons, List.flatMap_append, ECommand.vs, kndCommand, setD, List.cons_append, List.nil_append, H0.out, List.append_assoc] using own_base own18 hb6
    · simpa only [List.flatMap_cons, List.flatMap_append, kndCommand, ECommand.us, ECommand.its, setD, List.cons_append, List.nil_append, H0.out, List.length_cons, List.length_nil] using HI18.out
  · have HFT : Hid (fitW (brW x0 x1 x2 f s) = if m18 ≤ 80 then (brW x0 x1 x2 f s, 0) else ([], 5)) := by unfold Hid fitW; rw [HN.out]
    rw [if_neg h8] at HFT
    go_wp2_with (at_builtin; refine wpList_appx rfl _ _ _ rfl Try.underlying26 HI.out rfl (by omega) w6.heap.size own1517 hb617 rfl src17 rfl HO17.out (by unfold maxLen; omega) (by omega) ?_; intro v18 w18 own18 hg18 hnil18; clear hnil18; rw [HM18.out] at own18; obtain ⟨A18, c18, rfl⟩ := own_form own18; have b618 := grown_below b617 own1517 (Nat.le_refl _) hg18; have B18 := grown_below HB17.out own1517 hb6 hg18; have HI18 := Lib.hid ((HI17.out.kept own1517 hg18 (by decide)).wide hg18.size); clear own1517 src17 hg18 b617)
    refine (l22Fit_no _ _ _ _ h8).mono ?_
    rintro z w19 ⟨rfl, rfl⟩
    go_wp2
    go_ret2
    rw [HFT.out]
    exact ⟨_, [], rfl, SGrid.nil _ _ _ _ _ _ _, rfl, B18⟩
end Go.Proofs.Ytfmfpknigafnoaa
