/- SuccessorsOf by the program: a word's key, the steps of a word. -/
import Derived.Test.YtjakgeblmkdbpaaSuccSpec2
namespace Go.Proofs.Ytjakgeblmkdbpaa
open Go.RowKit
set_option linter.all false

set_option maxRecDepth 100000 in
set_option maxHeartbeats 1000000 in
theorem keyOf_any (A : Option Addr) (n c : Nat) (xs : List Int) (w : World) (ha : Arg w A n (xs.map (Value.int .i64))) (hl : xs.length = n) (hn : n ≤ 1048576) (hw : isWordB xs = true) :
    Calls Try.prog 65 #[.slice A n c] w fun e w' => e = .returned (.string (keyB xs)) ∧ Below w.heap.size w w' := by
  have hmk := fun W => run_make_row' (P := Try.prog) 164 5 (Value.int .u8 0) 1 Try.underlying164 infoByteS rfl .i64 .i64 n (by omega) (by omega) W
  have hrow0 := World.rowIs_made w (Value.int .u8 0) n 5
  have hB0 : Below w.heap.size w (w.alloc (.cells (madeCells #[Value.int .u8 0] n) 5)) := (Below.refl _ _).alloc (Nat.le_refl _) _
  have HD := Lib.hid (word_digits hw); clear hw
  have HL := Lib.hid hl; clear hl
  go_enter Try.func65, Try.ntmps65
  go_wp2_with fail
  clear hmk
  go_loopw [11] (fun i wr => ∃ k : Nat, k ≤ n ∧ i = .int .i64 k ∧ wr.rowIs w.heap.size 5 n (fun j => if j < k then (xs.map (Value.int .u8)).getD j undef else (Value.int .u8 0)) ∧ Below w.heap.size w wr) (fun i _ => n - (intOf i).toNat)
  case atStart => exact ⟨0, Nat.zero_le _, rfl, hrow0.congr (fun i _ => by simp), hB0⟩
  case round =>
    obtain ⟨k, hk, rfl, hrow, hB⟩ := hrel
    clear hrow0 hB0
    by_cases hlt : k < n
    · obtain ⟨b, off, rfl, hs⟩ := ha.sl hlt
      obtain ⟨x, HX, hx⟩ := map_at (Value.int .i64) xs (k := k) (by have := HL.out; omega)
      have hca := (hs.below' hB).at hx
      have hco : wr.cell? ⟨w.heap.size, k, none⟩ = some (Value.int .u8 0) := by simpa using hrow.cell hlt
      have hfo := hrow.frozen k
      have HR := Lib.hid (hrow.set k ((Value.int .u8) x))
      have HB := Lib.hid (hB.setCell (p := ⟨w.heap.size, k, none⟩) (Nat.le_refl _) ((Value.int .u8) x))
      have hd := HD.out x (List.mem_of_getElem? HX.out)
      have hwx : IntKind.u8.wrap x = x := by
        have h1 := hd.1; have h2 := hd.2
        simp only [IntKind.wrap, IntKind.bits, IntKind.signed]
        first | omega | (simp; omega)
      clear hx hrow hB hs hd ha
      go_wp2_with fail
      go_roundw
      case rel =>
        refine ⟨k + 1, by omega, by go_num, HR.out.congr (fun i hi => ?_), HB.out⟩
        exact upd_at ((Value.int .u8)) xs k i x HX.out _
      case measure => simp [intOf]; omega
    · have hlen : (xs.map (Value.int .u8)).length = n := by rw [List.length_map]; exact HL.out
      have hown : wr.ownsRow w.heap.size 5 1 (.slice (some ⟨w.heap.size, 0, none⟩) n n) n (xs.map (Value.int .u8)) := own_of_rowIs hrow (Nat.le_refl _) (by unfold maxLen; omega) hlen (fun j u hu => by
        have hj : j < n := by rw [← hlen]; exact (List.getElem?_eq_some_iff.1 hu).1
        rw [if_pos (by omega), List.getD_eq_getElem?_getD, hu]; rfl)
      have hkl : (keyL xs).length = n := by rw [keyL_len]; exact HL.out
      have hstr := run_str2 (l := keyL xs) (by rw [hkl, keyL_cells HD.out]; exact hown)
      clear hown hrow
      go_wp2_with fail
      go_ret
      exact ⟨rfl, hB⟩

/-- A step to a word, as a record in memory. -/
structure Mv where
  a : Int
  b : Int
  u : Value
def Mv.vs (m : Mv) : List Value := [.int .i64 m.a, .int .i64 m.b, m.u]
theorem infoMove : (Try.prog.info? 103).map (fun i => (i.zero, i.size, i.bytes)) = some (some (.agg #[.int .i64 0, .int .i64 0, .slice none 0 0]), 3, 40) := by kernel_rfl
structure MvRow (lo : Nat) (V : Value) (ps : List Mv) (ts : List (List Int)) (W : World) : Prop where
  own : W.ownsRow lo 103 3 V ps.length (rows Mv.vs ps)
  inn : Inn 1 2 lo W.heap.size (ps.map (·.u)) (itsOf oneI ts) W
theorem MvRow.below {lo : Nat} {V : Value} {ps : List Mv} {ts : List (List Int)} {W W' : World} (h : MvRow lo V ps ts W) (hb : Below W.heap.size W W') : MvRow lo V ps ts W' :=
  ⟨own_below' h.own hb, (h.inn.below hb).wide hb.size⟩
theorem MvRow.len {lo : Nat} {V : Value} {ps : List Mv} {ts : List (List Int)} {W : World} (h : MvRow lo V ps ts W) : ps.length = ts.length := by have := h.inn.len; simpa [itsOf] using this
theorem MvRow.nil (w : World) : MvRow w.heap.size (.slice (some ⟨w.heap.size, 0, none⟩) 0 0) [] [] (w.alloc (.cells #[] 103)) :=
  ⟨own_empty w _ 3, Inn.nil _ _ _ _ _⟩
theorem mv_push {lo hi : Nat} {V V' : Value} {m : Mv} {ps : List Mv} {ts : List (List Int)} {t : List Int} {W W' : World} (own : W.ownsRow lo 103 3 V ps.length (rows Mv.vs ps)) (inn : Inn 1 2 lo hi (ps.map (·.u)) (itsOf oneI ts) W) (hlo : lo ≤ hi)
    (o : W.ownsRow hi 2 1 m.u t.length (t.map (Value.int .i64))) (hhi : hi ≤ W.heap.size) (hg : W.grownBy W' V.ownBlock) (own' : W'.ownsRow lo 103 3 V' (ps.length + 1) (rows Mv.vs ps ++ m.vs)) : MvRow lo V' (ps ++ [m]) (ts ++ [t]) W' := by
  refine ⟨?_, ?_⟩
  · rw [List.length_append]
    have e : rows Mv.vs (ps ++ [m]) = rows Mv.vs ps ++ m.vs := by simp [rows]
    rw [e]; exact own'
  have i1 := inn.snoc (it := (t.length, rows oneI t)) (hi' := W.heap.size) (by rw [rows_oneI]; exact o) (Nat.le_refl _) hlo (Nat.le_refl _) hhi
  have i2 := (i1.kept own hg (by decide)).wide (hi' := W'.heap.size) hg.size
  have e1 : itsOf oneI (ts ++ [t]) = itsOf oneI ts ++ [(t.length, rows oneI t)] := by simp [itsOf]
  rw [e1, List.map_append]
  exact i2

theorem flatMap_filter {α β : Type} (p : α → Bool) (f : α → List β) (hf : ∀ a, p a = false → f a = []) : ∀ l : List α, l.flatMap f = (l.filter p).flatMap f
  | [] => rfl
  | a :: l => by
    rw [List.flatMap_cons, flatMap_filter p f hf l, List.filter_cons]
    cases h : p a
    · rw [hf a h, List.nil_append]; simp
    · simp
theorem movesTo_occ (r : DRewrite) (w : List Int) : movesTo r w (w.length + 1) = (occL w r.f0).flatMap (moveAt r w) := by
  unfold movesTo occL occTo
  refine flatMap_filter (fun j => startsB w j r.f0) _ (fun k h => ?_) _
  unfold moveAt
  rw [stepRw_no h, if_neg (by decide)]
theorem occL_at {x p : List Int} {t j : Nat} (h : (occL x p)[t]? = some j) : startsB x j p = true ∧ j ≤ x.length := by
  have := List.mem_of_getElem? h
  unfold occL occTo at this
  rw [List.mem_filter, List.mem_range] at this
  exact ⟨this.2, by omega⟩

set_option maxRecDepth 100000 in
set_option maxHeartbeats 2000000 in
theorem movesOf_any (b off n c : Nat) (es : List ERewrite) (xs : List DRewrite) (b1 o1 n1 c1 : Nat) (x : List Int) (w : World) (hs : Sl w b off (rows ERewrite.vs es)) (hr : RcsRewrite w es) (hd : es.map (·.d) = xs) (hl : xs.length = n) (hn : n ≤ 1048576) (ht : sumRewrite xs ≤ 1048576)
    (hs1 : Sl w b1 o1 (x.map (.int .i64))) (hl1 : x.length = n1) (hn1 : n1 ≤ 1048576) (hc1 : n1 ≤ c1) (hv : validRws xs = true) (hx : isWordB x = true) :
    Calls Try.prog 64 #[.slice (some ⟨b, off, none⟩) n c, .slice (some ⟨b1, o1, none⟩) n1 c1] w fun e w' => ∃ (V F : Value) (ps : List Mv), e = .returned (.tuple #[V, F]) ∧ MvRow w.heap.size V ps (movesIn xs x) w' ∧ Below w.heap.size w w' := by
  have hn60 : n ≤ 60 := by have := (validRws_len hv).2; omega
  have hn400 : n1 ≤ 400 := by have := isWord_len hx; omega
  have HL := Lib.hid hl; have HL1 := Lib.hid hl1; have HD := Lib.hid hd; have HT := Lib.hid ht
  have HE : Hid (es.length = n) := by unfold Hid; rw [← hl, ← hd, List.length_map]
  have HS := Lib.hid hs; have HR := Lib.hid hr; have HS1 := Lib.hid hs1
  have HML : Hid (∀ i (r : DRewrite) t, i < n → (movesIn (xs.take i) x ++ ((occL x r.f0).take t).flatMap (moveAt r x)).length ≤ 24461) := by
    intro i r t hi
    have h1 := movesIn_len x (xs.take i)
    rw [List.length_take, hl, hl1] at h1
    have h3 : min i n * (n1 + 1) ≤ 60 * 401 := Nat.mul_le_mul (by omega) (by omega)
    have h4 : ∀ l : List Nat, (l.flatMap (moveAt r x)).length ≤ l.length := by
      intro l
      induction l with
      | nil => simp
      | cons a l ih =>
        rw [List.flatMap_cons, List.length_append, List.length_cons]
        have : (moveAt r x a).length ≤ 1 := by unfold moveAt; split <;> simp
        omega
    have h5 := h4 ((occL x r.f0).take t)
    have h6 := occTo_len x r.f0 (x.length + 1)
    rw [List.length_take] at h5
    have h7 : (occL x r.f0).length ≤ n1 + 1 := by unfold occL; omega
    rw [List.length_append]; omega
  clear hs hr hd hl ht hs1 hl1 hv hx
  obtain ⟨wa, HWa, Ba, xa⟩ := al1 w (.cells #[] 103)
  have HST0 : Hid (MvRow w.heap.size (.slice (some ⟨w.heap.size, 0, none⟩) 0 0) [] (movesIn (xs.take 0) x) wa) := by
    have h := MvRow.nil w
    rw [← HWa.out] at h
    exact h
  clear xa
  go_enter Try.func64, Try.ntmps64
  go_wp2_with fail
  rw [← HWa.out]
  go_loopw [6, 17] (fun o r wr => ∃ (i : Nat) (V : Value) (ps : List Mv), i ≤ n ∧ r = .int .i64 i ∧ V = o ∧ Hid (MvRow w.heap.size V ps (movesIn (xs.take i) x) wr) ∧ Hid (Below w.heap.size w wr)) (fun _ r _ => n - (intOf r).toNat)
  case atStart => exact ⟨0, _, [], Nat.zero_le _, rfl, rfl, HST0, Ba⟩
  case round =>
    obtain ⟨i, V0, ps0, hi, rfl, rfl, HST, HB⟩ := hrel
    by_cases hlt : i < n
    · obtain ⟨e, HX⟩ := hget HE hlt
      have hiI : (i : Int) < (n : Int) := by omega
      have HXD : Hid (xs[i]? = some e.d) := by unfold Hid; rw [← HD.out, List.getElem?_map, HX.out]; rfl
      have hwl : wlRewrite e.d ≤ 1048576 := Nat.le_trans (sumRewrite_at HXD.out) HT.out
      obtain ⟨⟨g0, eu0, s0⟩, ⟨g1, eu1, s1⟩, -⟩ := HR.out.at (List.mem_of_getElem? HX.out)
      have hs := HS.out.below' HB.out
      have p0 : wr.cell? ⟨b, off + i * 2, none⟩ = some e.u0 := Sl.rec (f := ERewrite.vs) (s := 2) (fun _ => rfl) hs HX.out (j := 0) rfl
      have p1 : wr.cell? ⟨b, off + i * 2 + 1, none⟩ = some e.u1 := Sl.rec (f := ERewrite.vs) (s := 2) (fun _ => rfl) hs HX.out (j := 1) rfl
      rw [eu0] at p0
      rw [eu1] at p1
      clear eu0 eu1 hs
      obtain ⟨⟨f0, f1⟩, u0, u1⟩ := e
      dsimp only at p0 p1 s0 s1 hwl HXD
      simp only [wlRewrite] at hwl
      obtain ⟨m0, hm0⟩ : ∃ q, q = f0.length := ⟨_, rfl⟩
      obtain ⟨m1, hm1⟩ : ∃ q, q = f1.length := ⟨_, rfl⟩
      rw [← hm0] at p0 hwl
      rw [← hm1] at p1 hwl
      have HM0 := Lib.hid hm0.symm
      have HM1 := Lib.hid hm1.symm
      have S0 := Lib.hid s0; have S1 := Lib.hid s1
      clear hm0 hm1 s0 s1
      obtain ⟨w0, HW0, B0, x0⟩ := al1 wr (.cells #[.slice (some ⟨g0, 0, none⟩) m0 m0, .slice (some ⟨g1, 0, none⟩) m1 m1] 96)
      have k0 : w0.cell? ⟨wr.heap.size, 0, none⟩ = some (.slice (some ⟨g0, 0, none⟩) m0 m0) := by rw [cell_of_heap x0]; rfl
      have HST1 := Lib.hid (HST.out.below B0)
      have HB1 := Lib.hid (below_step HB.out B0)
      have X0 := Lib.hid x0
      clear x0
      go_wp2_with fail
      rw [← HW0.out]
      refine (occurrences_any b1 o1 n1 c1 x g0 0 m0 m0 f0 _ (HS1.out.below' HB1.out) HL1.out hn1 (S0.out.below' HB1.out) HM0.out (by omega) hc1).mono ?_
      rintro z w2 ⟨v, rfl, own2, b2⟩
      obtain ⟨lo, hlo⟩ : ∃ l, (occL x f0).length = l := ⟨_, rfl⟩
      rw [hlo] at own2
      have HLO := Lib.hid hlo; clear hlo
      have hlo1 : lo ≤ 401 := by have := occTo_len x f0 (x.length + 1); have := HLO.out; have := HL1.out; unfold occL at *; omega
      obtain ⟨Ao, co, rfl⟩ := own_form own2
      have HOC := Lib.hid (own_base own2 HB1.out.size)
      have HST2 := Lib.hid (HST1.out.below b2)
      have HB2 := Lib.hid (below_step HB1.out b2)
      obtain ⟨gb, hgb⟩ : ∃ gb, gb = wr.heap.size := ⟨_, rfl⟩
      have HX2 : Hid (w2.heap[gb]? = some (.cells #[.slice (some ⟨g0, 0, none⟩) m0 m0, .slice (some ⟨g1, 0, none⟩) m1 m1] 96 (0, 0))) := by unfold Hid; rw [hgb]; exact (b2.block _ (heap_lt X0.out)).trans X0.out
      rw [← hgb]
      clear own2 b2 k0 p0 p1 hgb
      go_wp2_with fail
      go_loopw [6, 27] (fun o t wr => ∃ (k : Nat) (V : Value) (ps : List Mv), k ≤ lo ∧ t = .int .i64 k ∧ V = o ∧ Hid (MvRow w.heap.size V ps (movesIn (xs.take i) x ++ ((occL x f0).take k).flatMap (moveAt ⟨f0, f1⟩ x)) wr) ∧ Hid (Below w.heap.size w wr) ∧ Hid (wr.heap[gb]? = some (.cells #[.slice (some ⟨g0, 0, none⟩) m0 m0, .slice (some ⟨g1, 0, none⟩) m1 m1] 96 (0, 0))) ∧ Hid (wr.ownsRow w.heap.size 2 1 (.slice Ao lo co) lo ((occL x f0).map fun (j : Nat) => Value.int .i64 (j : Int)))) (fun _ t _ => lo - (intOf t).toNat)
      case atStart => exact ⟨0, _, ps0, Nat.zero_le _, rfl, rfl, by simpa using HST2, HB2, HX2, HOC⟩
      case round =>
        obtain ⟨k, V, ps, hk, rfl, rfl, HSK, HBK, HXK, HOK⟩ := hrel
        by_cases hkl : k < lo
        · obtain ⟨j, HJ⟩ := hget HLO hkl
          obtain ⟨hst, hjx⟩ := occL_at HJ.out
          rw [HL1.out] at hjx
          have hkI : (k : Int) < (lo : Int) := by omega
          have hk0 : (0 : Int) ≤ (k : Int) := by omega
          have hAO := arg_of_own HOK.out
          obtain ⟨bo, oo, hAo, hso⟩ := hAO.sl hkl
          have hoc : wr.cell? ⟨bo, oo + k, none⟩ = some (.int .i64 (j : Int)) := hso.at (by rw [List.getElem?_map, HJ.out]; rfl)
          have q0 : wr.cell? ⟨gb, 0, none⟩ = some (.slice (some ⟨g0, 0, none⟩) m0 m0) := by rw [cell_of_heap HXK.out]; rfl
          have q1 : wr.cell? ⟨gb, 1, none⟩ = some (.slice (some ⟨g1, 0, none⟩) m1 m1) := by rw [cell_of_heap HXK.out]; rfl
          have hkm := starts_le hst
          rw [HL1.out, HM0.out] at hkm
          have HS2 : Hid (stepRw ⟨f0, f1⟩ x j = fitL (putL x j m0 f1)) := by unfold Hid; rw [stepRw_yes hst]; show fitL (putL x j f0.length f1) = _; rw [HM0.out]
          have HPL : Hid ((putL x j m0 f1).length = n1 - m0 + m1) := by unfold Hid; rw [putL_length _ _ _ _ (by have := HL1.out; omega), HL1.out, HM1.out]
          have hml := HML.out i ⟨f0, f1⟩ k hlt
          have HTK : Hid ((occL x f0).take (k + 1) = (occL x f0).take k ++ [j]) := by unfold Hid; rw [List.take_add_one, HJ.out]; rfl
          subst hAo
          clear hst hAO hso
          go_wp2_with fail
          refine (replaced_any b1 o1 n1 c1 x j m0 g1 0 m1 m1 f1 _ (HS1.out.below' HBK.out) HL1.out hn1 (S1.out.below' HBK.out) HM1.out (by omega) hkm hc1).mono ?_
          rintro e w3 ⟨v, rfl, own3, b3⟩
          obtain ⟨L, hL⟩ : ∃ L, n1 - m0 + m1 = L := ⟨_, rfl⟩
          rw [hL] at own3
          have HPLL := HPL.out
          rw [hL] at HPLL
          have HPL2 := Lib.hid HPLL
          clear HPLL hoc q0 q1
          obtain ⟨A3, c3, rfl⟩ := own_form own3
          by_cases hf : L ≤ 400
          · have HSV : Hid (stepRw ⟨f0, f1⟩ x j = (putL x j m0 f1, 0)) := by unfold Hid; rw [HS2.out, fitL_yes (by rw [HPL2.out]; exact hf)]
            have HMS : Hid (movesIn (xs.take i) x ++ ((occL x f0).take (k + 1)).flatMap (moveAt ⟨f0, f1⟩ x) = (movesIn (xs.take i) x ++ ((occL x f0).take k).flatMap (moveAt ⟨f0, f1⟩ x)) ++ [putL x j m0 f1]) := by
              unfold Hid
              rw [HTK.out, List.flatMap_append, List.append_assoc]
              congr 2
              simp [moveAt, HSV.out]
            have hrow := HSK.out
            obtain ⟨ms, hms⟩ : ∃ ms, movesIn (xs.take i) x ++ ((occL x f0).take k).flatMap (moveAt ⟨f0, f1⟩ x) = ms := ⟨_, rfl⟩
            rw [hms] at hrow hml
            rw [hms] at HMS
            have hlen := hrow.len
            obtain ⟨lp, hlp⟩ : ∃ l, ps.length = l := ⟨_, rfl⟩
            have HLP := Lib.hid hlp
            have hlp2 : lp ≤ 24461 := by omega
            have ownV := hrow.own
            rw [hlp] at ownV
            obtain ⟨AV, cV, hAV⟩ := own_form ownV
            subst hAV
            obtain ⟨hi0, hhi⟩ : ∃ hi, Hid (hi = wr.heap.size) := ⟨_, rfl⟩
            have hlo0 : w.heap.size ≤ hi0 := by rw [hhi.out]; exact HBK.out.size
            obtain ⟨w4, HW4, b4, x4⟩ := al1 w3 (.cells #[.int .i64 i, .int .i64 j, .slice A3 L c3] 103)
            have bb := below_step b3 b4
            have ownV4 := own_below' ownV bb
            have innV4 : Inn 1 2 w.heap.size hi0 (ps.map (·.u)) (itsOf oneI ms) w4 := by rw [hhi.out]; exact hrow.inn.below bb
            have own4 := own_below' own3 b4
            rw [← hhi.out] at own4
            have hh4 : hi0 ≤ w4.heap.size := by rw [hhi.out]; exact bb.size
            have HB4 := Lib.hid (below_step HBK.out bb)
            have HX4 : Hid (w4.heap[gb]? = some (.cells #[.slice (some ⟨g0, 0, none⟩) m0 m0, .slice (some ⟨g1, 0, none⟩) m1 m1] 96 (0, 0))) := (bb.block _ (heap_lt HXK.out)).trans HXK.out
            have HO4 := Lib.hid (own_below' HOK.out bb)
            have src4 : Src 3 w4 (.slice (some ⟨w3.heap.size, 0, none⟩) 1 1) 1 [.int .i64 i, .int .i64 j, .slice A3 L c3] := Src.of_own (own_of_block (n := 1) (cap := 1) (s := 3) (xs := [.int .i64 i, .int .i64 j, .slice A3 L c3]) (base := 0) x4 (by omega) rfl (by omega) (by unfold maxLen; omega))
            clear hms hlp hlen hrow ownV own3 x4 b4 bb b3 hml
            go_wp2_with fail
            refine (fitting_yes L _ A3 c3 hf).mono ?_
            rintro e w3' ⟨rfl, rfl⟩
            go_wp2_with (at_builtin; rw [← HW4.out]; refine wpList_appx rfl _ _ _ rfl Try.underlying98 infoMove rfl (by omega) w.heap.size ownV4 HB4.out.size rfl src4 rfl (by simp [Value.oneCell']) (by unfold maxLen; omega) (by omega) ?_; intro V5 w5 own5 hg5 hnil5)
            have HR5 : Hid (MvRow w.heap.size V5 (ps ++ [⟨i, j, .slice A3 L c3⟩]) (ms ++ [putL x j m0 f1]) w5) :=
              mv_push (m := ⟨i, j, .slice A3 L c3⟩) (by rw [HLP.out]; exact ownV4) innV4 hlo0 (by rw [HPL2.out]; exact own4) hh4 hg5 (by rw [HLP.out]; exact own5)
            have HB5 := Lib.hid (grown_below HB4.out ownV4 (Nat.le_refl _) hg5)
            have HX5 : Hid (w5.heap[gb]? = some (.cells #[.slice (some ⟨g0, 0, none⟩) m0 m0, .slice (some ⟨g1, 0, none⟩) m1 m1] 96 (0, 0))) := (hg5.block gb (heap_lt HX4.out) (own_ne_block ownV4 HX4.out (by decide))).trans HX4.out
            have HO5 := Lib.hid (HO4.out.kept hg5 (own_apart_ty HO4.out ownV4 (by decide)))
            clear ownV4 innV4 own4 src4 own5 hg5 hnil5
            go_roundw
            case rel => exact ⟨k + 1, _, _, by omega, by go_num, rfl, by rw [HMS.out]; exact HR5, HB5, HX5, HO5⟩
            case measure => simp [intOf]; omega
          · have HSV : Hid (stepRw ⟨f0, f1⟩ x j = ([], 5)) := by unfold Hid; rw [HS2.out, fitL_no (by rw [HPL2.out]; omega)]
            have HMS : Hid (movesIn (xs.take i) x ++ ((occL x f0).take (k + 1)).flatMap (moveAt ⟨f0, f1⟩ x) = movesIn (xs.take i) x ++ ((occL x f0).take k).flatMap (moveAt ⟨f0, f1⟩ x)) := by
              unfold Hid
              rw [HTK.out, List.flatMap_append]
              congr 1
              simp [moveAt, HSV.out]
            have HSK3 := Lib.hid (HSK.out.below b3)
            have HB3 := Lib.hid (below_step HBK.out b3)
            have HX3 : Hid (w3.heap[gb]? = some (.cells #[.slice (some ⟨g0, 0, none⟩) m0 m0, .slice (some ⟨g1, 0, none⟩) m1 m1] 96 (0, 0))) := (b3.block _ (heap_lt HXK.out)).trans HXK.out
            have HO3 := Lib.hid (own_below' HOK.out b3)
            clear own3 b3 hml
            go_wp2_with fail
            refine (fitting_no L _ A3 c3 (by omega) (by omega)).mono ?_
            rintro e w3' ⟨rfl, rfl⟩
            go_wp2_with fail
            go_roundw
            case rel => exact ⟨k + 1, _, _, by omega, by go_num, rfl, by rw [HMS.out]; exact HSK3, HB3, HX3, HO3⟩
            case measure => simp [intOf]; omega
        · obtain rfl : k = lo := by omega
          have hkI : ¬ (k : Int) < (k : Int) := by omega
          have HMI : Hid (movesIn (xs.take i) x ++ ((occL x f0).take k).flatMap (moveAt ⟨f0, f1⟩ x) = movesIn (xs.take (i + 1)) x) := by
            unfold Hid
            have hT : (occL x f0).take k = occL x f0 := List.take_of_length_le (Nat.le_of_eq HLO.out)
            rw [hT, movesIn_succ x HXD.out, movesTo_occ]
          have HN := HSK.out
          rw [HMI.out] at HN
          have HNH := Lib.hid HN
          clear HN
          go_wp2_with fail
          go_roundw
          case rel => exact ⟨i + 1, _, _, by omega, by go_num, rfl, HNH, HBK⟩
          case measure => simp [intOf]; omega
    · obtain rfl : i = n := by omega
      have hiI : ¬ (i : Int) < (i : Int) := by omega
      have HEX : Hid (xs.take i = xs) := List.take_of_length_le (by have := HL.out; omega)
      go_wp2_with fail
      go_ret2
      have hws := HST.out
      rw [HEX.out] at hws
      exact ⟨_, ⟨_, rfl⟩, ⟨_, hws⟩, HB.out⟩
end Go.Proofs.Ytjakgeblmkdbpaa
