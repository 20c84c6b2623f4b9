/- The reference's l22Is and ValidWhile. -/
import Derived.Test.YtfmfpknigafnoaaValidWImpl
namespace Go.Proofs.Ytfmfpknigafnoaa
open Go.RowKit
set_option linter.all false

/-- A stack of ends, the last one at the top. -/
def rowE (r : List Nat) : List Value := r.reverse.map fun e : Nat => Value.int .i64 (e : Int)
theorem rowE_cons (e : Nat) (r : List Nat) : rowE (e :: r) = rowE r ++ [.int .i64 (e : Int)] := by simp [rowE]
theorem rowE_len (r : List Nat) : (rowE r).length = r.length := by simp [rowE]
def sliceLen : Value → Nat
  | .slice _ n _ => n
  | _ => 0
theorem infoIntE : (Try.prog.info? 3).map (fun i => (i.zero, i.size, i.bytes)) = some (some (.int .i64 0), 1, 8) := by kernel_rfl

theorem own_one (w : World) (n : Nat) : (w.alloc (.cells #[.int .i64 (n : Int)] 3)).ownsRow w.heap.size 3 1 (.slice (some ⟨w.heap.size, 0, none⟩) 1 1) 1 (rowE [n]) :=
  ⟨by simp [rowE], .inr ⟨w.heap.size, 1, #[.int .i64 (n : Int)], rfl, Nat.le_refl _, heap_alloc_new w _, Nat.le_refl _, by simp [maxLen], rfl, by simp [rowE]⟩⟩

set_option maxRecDepth 100000 in
set_option maxHeartbeats 4000000 in
theorem l22Is_is (b off n c : Nat) (es : List ECommand) (xs : List DCommand) (w : World) (hs : Sl w b off (rows ECommand.vs es)) (hr : RdsCommand w es) (hd : es.map (·.d) = xs) (hl : xs.length = n) (h8 : n ≤ 80) (ht : sumCommand xs ≤ 1048576) (v : Bool) (hv : validCs xs = v) :
    Calls Try.prog 56 #[.slice (some ⟨b, off, none⟩) n c] w fun z w' => z = .returned (.bool v) ∧ Below w.heap.size w w' := by
  have HL := Lib.hid hl; have HD := Lib.hid hd; have HT := Lib.hid ht
  have HC : Hid (es.length = n) := by unfold Hid; rw [← hl, ← hd, List.length_map]
  have HV : Hid (sRun 0 [n] (xs.drop 0) = v) := by unfold Hid; rw [List.drop_zero, ← hl, sRun_all]; exact hv
  clear hl hd hv ht
  go_enter Try.func56, Try.ntmps56
  go_wp2
  go_loopw [3, 4] (fun vv i wr => ∃ (k m e : Nat) (r : List Nat), k ≤ n ∧ m ≤ k ∧ i = .int .i64 k ∧ wr.ownsRow w.heap.size 3 1 vv (m + 1) (rowE (e :: r)) ∧ Below w.heap.size w wr ∧ Hid (∀ q ∈ e :: r, q ≤ n) ∧ Hid (r.length = m) ∧ Hid (sRun k (e :: r) (xs.drop k) = v)) (fun _ i _ => n - (intOf i).toNat)
  case atStart => exact ⟨0, 0, n, [], Nat.zero_le _, Nat.zero_le _, rfl, own_one w n, laid_below _ _, by intro q hq; simp at hq; omega, rfl, HV⟩
  case round =>
    obtain ⟨k, m0, e0, r0, hk, hm0, rfl, hown0, hB0, HE0, HM0, HK0⟩ := hrel
    by_cases hlt : k < n
    rotate_left
    · obtain rfl : k = n := by omega
      have HF : Hid (true = v) := by have := HK0.out; rw [List.drop_of_length_le (by have := HL.out; omega)] at this; rw [sRun] at this; exact this
      go_wp2
      go_ret
      exact ⟨ret_bool HF.out, hB0⟩
    obtain ⟨ee, HX⟩ := hget HC hlt
    have HXD : Hid (xs[k]? = some ee.d) := by unfold Hid; rw [← HD.out, List.getElem?_map, HX.out]; rfl
    have re := hr ee (List.mem_of_getElem? HX.out)
    have hwl : ee.d.f3.length ≤ 1048576 := Nat.le_trans (sumCommand_at HXD.out) HT.out
    obtain ⟨⟨A3, c3, e3, a3⟩, -⟩ := re
    obtain ⟨⟨f0, f1, f2, f3⟩, u3⟩ := ee
    dsimp only at a3 hwl HXD e3
    subst e3
    obtain ⟨n3, hn3⟩ : ∃ n, n = f3.length := ⟨_, rfl⟩
    rw [← hn3] at a3 hwl HX
    clear hn3
    obtain ⟨vE, hvE⟩ : ∃ u, validE f3 = u := ⟨_, rfl⟩
    have HVE := Lib.hid hvE; clear hvE
    obtain ⟨A0, d0, rfl⟩ := own_form hown0
    go_wp2_with fail
    go_loopw [3] (fun vv wv => ∃ (m e : Nat) (r : List Nat), m ≤ k ∧ wv.ownsRow w.heap.size 3 1 vv (m + 1) (rowE (e :: r)) ∧ Below w.heap.size w wv ∧ Hid (∀ q ∈ e :: r, q ≤ n) ∧ Hid (r.length = m) ∧ Hid (sRun k (e :: r) (xs.drop k) = v)) (fun vv _ => sliceLen vv)
    case atStart => exact ⟨m0, e0, r0, hm0, hown0, hB0, HE0, HM0, HK0⟩
    case round =>
      obtain ⟨m, e, r, hm, hown, hB, HE, HM, HK⟩ := hrel
      obtain ⟨A, d, rfl⟩ := own_form hown
      obtain ⟨g, rfl, _, _⟩ := own_addr0 hown (Nat.succ_pos m)
      have ct : wr.cell? ⟨g, m, none⟩ = some (.int .i64 (e : Int)) := by
        have := (sl_of_own hown).at (j := m) (u := .int .i64 (e : Int)) (by rw [rowE_cons, List.getElem?_append_right (by rw [rowE_len, HM.out]; exact Nat.le_refl _), rowE_len, HM.out, Nat.sub_self]; rfl)
        rw [Nat.zero_add] at this
        exact this
      have hcap : m + 1 ≤ d := by
        rcases hown.2 with ⟨h, _⟩ | ⟨g', cap', cur, hv, _, _, hn, _⟩
        · cases h
        · injection hv with e1 e2 e3
          subst e3
          exact hn
      clear hown0 hB0
      rcases Nat.eq_zero_or_pos m with hmz | hmz
      · subst hmz
        have hx : r = [] ∨ e ≠ k := .inl (List.eq_nil_of_length_eq_zero HM.out)
        rw [Nat.zero_add] at hown
        have HQ : Hid ((okC ⟨f0, f1, f2, f3⟩ && (if f0 = 0 then decide (f2 = 0) && sRun (k + 1) (e :: r) (xs.drop (k + 1)) else if f0 = 1 then decide (f1 = 0) && (inB f2 0 ((e : Int) - k - 1) && sRun (k + 1) ((k + 1 + f2.toNat) :: e :: r) (xs.drop (k + 1))) else false)) = v) := by
          unfold Hid; have := HK.out; rw [drop_at HXD.out, sRun_step hx] at this; exact this
        have p0 : wr.cell? ⟨b, off + k * 4, none⟩ = some (.int .i64 f0) := Sl.rec (f := ECommand.vs) (s := 4) (fun _ => rfl) (hs.below' hB) HX.out (j := 0) rfl
        have p1 : wr.cell? ⟨b, off + k * 4 + 1, none⟩ = some (.int .i64 f1) := Sl.rec (f := ECommand.vs) (s := 4) (fun _ => rfl) (hs.below' hB) HX.out (j := 1) rfl
        have p2 : wr.cell? ⟨b, off + k * 4 + 2, none⟩ = some (.int .i64 f2) := Sl.rec (f := ECommand.vs) (s := 4) (fun _ => rfl) (hs.below' hB) HX.out (j := 2) rfl
        have p3 : wr.cell? ⟨b, off + k * 4 + 3, none⟩ = some (.slice A3 n3 c3) := Sl.rec (f := ECommand.vs) (s := 4) (fun _ => rfl) (hs.below' hB) HX.out (j := 3) rfl
        have a3w := a3.below hB
        clear hx
        cases vE
        · have HF : Hid (false = v) := by unfold Hid; have := HQ.out; rw [okC] at this; dsimp only at this; rw [HVE.out] at this; simpa using this
          go_wp2_with fail
          refine (l22Expr_is A3 n3 c3 f3 false HVE.out _ a3w hwl).mono ?_
          rintro z w2 ⟨rfl, rfl⟩
          go_wp2
          go_ret
          exact ⟨ret_bool HF.out, hB⟩
        obtain ⟨vI, hvI⟩ : ∃ u, inB f1 0 5 = u := ⟨_, rfl⟩
        have HVI := Lib.hid hvI; clear hvI
        cases vI
        · have HF : Hid (false = v) := by unfold Hid; have := HQ.out; rw [okC] at this; dsimp only at this; rw [HVE.out, HVI.out] at this; simpa using this
          go_wp2_with fail
          refine (l22Expr_is A3 n3 c3 f3 true HVE.out _ a3w hwl).mono ?_
          rintro z w2 ⟨rfl, rfl⟩
          go_wp2_with fail
          refine (l00In_is f1 0 5 false HVI.out _).mono ?_
          rintro z w2 ⟨rfl, rfl⟩
          go_wp2
          go_ret
          exact ⟨ret_bool HF.out, hB⟩
        by_cases h0 : f0 = 0
        · subst h0
          by_cases h2 : f2 = 0
          rotate_left
          · have HF : Hid (false = v) := by unfold Hid; have := HQ.out; rw [okC] at this; dsimp only at this; rw [HVE.out, HVI.out, if_pos rfl, decide_eq_false h2] at this; simpa using this
            have e2 : (f2 != 0) = true := by simpa using h2
            clear h2
            go_wp2_with fail
            refine (l22Expr_is A3 n3 c3 f3 true HVE.out _ a3w hwl).mono ?_
            rintro z w2 ⟨rfl, rfl⟩
            go_wp2_with fail
            refine (l00In_is f1 0 5 true HVI.out _).mono ?_
            rintro z w2 ⟨rfl, rfl⟩
            go_wp2
            go_ret
            exact ⟨ret_bool HF.out, hB⟩
          subst h2
          have HN : Hid (sRun (k + 1) (e :: r) (xs.drop (k + 1)) = v) := by unfold Hid; have := HQ.out; rw [okC] at this; dsimp only at this; rw [HVE.out, HVI.out, if_pos rfl] at this; simpa using this
          go_wp2_with fail
          refine (l22Expr_is A3 n3 c3 f3 true HVE.out _ a3w hwl).mono ?_
          rintro z w2 ⟨rfl, rfl⟩
          go_wp2_with fail
          refine (l00In_is f1 0 5 true HVI.out _).mono ?_
          rintro z w2 ⟨rfl, rfl⟩
          go_wp2_with fail
          go_roundw
          case rel => exact ⟨k + 1, 0, e, r, by omega, by omega, by go_num, hown, hB, HE, HM, HN⟩
          case measure => simp [intOf]; omega
        have z0 : (f0 == 0) = false := by simpa using h0
        by_cases h1 : f0 = 1
        rotate_left
        · have z1 : (f0 == 1) = false := by simpa using h1
          have HF : Hid (false = v) := by unfold Hid; have := HQ.out; rw [if_neg h0, if_neg h1] at this; simpa using this
          clear h0 h1
          go_wp2_with fail
          refine (l22Expr_is A3 n3 c3 f3 true HVE.out _ a3w hwl).mono ?_
          rintro z w2 ⟨rfl, rfl⟩
          go_wp2_with fail
          refine (l00In_is f1 0 5 true HVI.out _).mono ?_
          rintro z w2 ⟨rfl, rfl⟩
          go_wp2
          go_ret
          exact ⟨ret_bool HF.out, hB⟩
        subst h1
        clear h0 z0
        by_cases h1 : f1 = 0
        rotate_left
        · have z1 : (f1 != 0) = true := by simpa using h1
          have HF : Hid (false = v) := by unfold Hid; have := HQ.out; rw [if_neg (by omega), if_pos rfl, decide_eq_false h1] at this; simpa using this
          clear h1
          go_wp2_with fail
          refine (l22Expr_is A3 n3 c3 f3 true HVE.out _ a3w hwl).mono ?_
          rintro z w2 ⟨rfl, rfl⟩
          go_wp2_with fail
          refine (l00In_is f1 0 5 true HVI.out _).mono ?_
          rintro z w2 ⟨rfl, rfl⟩
          go_wp2_with fail
          go_quiet (fail)
          have hBq := below_drewN hB nq
          go_wp2_with fail
          go_ret
          exact ⟨ret_bool HF.out, by first | exact hBq | (rw [World.drewN_drewN]; exact below_drewN hB _)⟩
        subst h1
        have hen : e ≤ n := HE.out e (List.mem_cons_self ..)
        obtain ⟨vL, hvL⟩ : ∃ u, inB f2 0 ((e : Int) - (k : Int) - 1) = u := ⟨_, rfl⟩
        have HVL := Lib.hid hvL; clear hvL
        have hw0 : IntKind.i64.wrap (0 : Int) = (0 : Int) := IntWalk.i64_in _ (by omega)
        have hw1 : IntKind.i64.wrap ((e : Int) - (k : Int)) = (e : Int) - (k : Int) := IntWalk.i64_in _ (by omega)
        have hw2 : IntKind.i64.wrap ((e : Int) - (k : Int) - 1) = (e : Int) - (k : Int) - 1 := IntWalk.i64_in _ (by omega)
        cases vL
        · have HF : Hid (false = v) := by unfold Hid; have := HQ.out; rw [if_neg (by omega), if_pos rfl, HVL.out] at this; simpa using this
          go_wp2_with fail
          refine (l22Expr_is A3 n3 c3 f3 true HVE.out _ a3w hwl).mono ?_
          rintro z w2 ⟨rfl, rfl⟩
          go_wp2_with fail
          refine (l00In_is 0 0 5 true HVI.out _).mono ?_
          rintro z w2 ⟨rfl, rfl⟩
          go_wp2_with fail
          go_quiet ((go_at_call 57; exact quiet_eq (l00In_is f2 0 ((e : Int) - (k : Int) - 1) false HVL.out _)))
          go_wp2_with fail
          go_ret
          exact ⟨ret_bool HF.out, by first | exact below_drewN hB _ | (rw [World.drewN_drewN]; exact below_drewN hB _)⟩
        obtain ⟨l, rfl⟩ : ∃ l : Nat, f2 = l := ⟨f2.toNat, by have := (inB_iff _ _ _).1 HVL.out; omega⟩
        have hln : k + 1 + l ≤ n := by have := (inB_iff _ _ _).1 HVL.out; omega
        have HN : Hid (sRun (k + 1) ((k + 1 + l) :: e :: r) (xs.drop (k + 1)) = v) := by unfold Hid; have := HQ.out; rw [okC] at this; dsimp only at this; rw [HVE.out, HVI.out, if_neg (by omega), if_pos rfl, HVL.out, Int.toNat_natCast] at this; simpa using this
        have HE2 : Hid (∀ q ∈ (k + 1 + l) :: e :: r, q ≤ n) := by unfold Hid; intro q hq; rcases List.mem_cons.1 hq with rfl | hq; exact hln; exact HE.out q hq
        have HM2 : Hid ((e :: r).length = 1) := by unfold Hid; rw [List.length_cons, HM.out]
        go_wp2_with fail
        refine (l22Expr_is A3 n3 c3 f3 true HVE.out _ a3w hwl).mono ?_
        rintro z w2 ⟨rfl, rfl⟩
        go_wp2_with fail
        refine (l00In_is 0 0 5 true HVI.out _).mono ?_
        rintro z w2 ⟨rfl, rfl⟩
        go_wp2_with fail
        go_quiet ((go_at_call 57; exact quiet_eq (l00In_is (l : Int) 0 ((e : Int) - (k : Int) - 1) true HVL.out _)))
        have hBq : Below w.heap.size w (wr.drewN nq) := below_drewN hB nq
        have hownq : (wr.drewN nq).ownsRow w.heap.size 3 1 (.slice (some ⟨g, 0, none⟩) 1 d) 1 (rowE (e :: r)) := own_below' hown (quiet_below rfl)
        have q2 : (wr.drewN nq).cell? ⟨b, off + k * 4 + 2, none⟩ = some (.int .i64 (l : Int)) := p2
        clear hown hB p0 p1 p2 p3 a3w ct
        generalize wr.drewN nq = wq at hBq hownq q2 ⊢
        have hw3 : IntKind.i64.wrap ((k : Int) + 1 + (l : Int)) = ((k + 1 + l : Nat) : Int) := by rw [IntWalk.i64_in _ (by omega)]; omega
        go_wp2_with (at_builtin; refine wpList_app rfl _ _ _ rfl Try.underlying145 infoIntE rfl (by omega) w wq hownq hBq rfl 1 #[.int .i64 ((k + 1 + l : Nat) : Int)] rfl (laid_below _ _) (heap_alloc_new _ _) rfl (by simp [Value.oneCell']) (by omega) (by unfold maxLen; omega) (by omega) ?_; intro g2 cap w1 hown1 hB1; clear hownq hBq)
        go_roundw
        case rel => exact ⟨k + 1, 1, k + 1 + l, e :: r, by omega, by omega, by go_num, by rw [rowE_cons]; exact hown1, hB1, HE2, HM2, HN⟩
        case measure => simp [intOf]; omega

      by_cases hek : e = k
      · subst hek
        obtain ⟨m', rfl⟩ : ∃ q, m = q + 1 := ⟨m - 1, by omega⟩
        obtain ⟨e2, r2, hr2⟩ : ∃ e2 r2, r = e2 :: r2 := by
          cases r with
          | nil => have := HM.out; simp at this
          | cons a l => exact ⟨a, l, rfl⟩
        subst hr2
        have HE' : Hid (∀ q ∈ e2 :: r2, q ≤ n) := fun q hq => HE.out q (List.mem_cons_of_mem _ hq)
        have HM' : Hid (r2.length = m') := by have := HM.out; rw [List.length_cons] at this; unfold Hid; omega
        have HK' : Hid (sRun e (e2 :: r2) (xs.drop e) = v) := by unfold Hid; rw [← sRun_pop]; exact HK.out
        have hown' : wr.ownsRow w.heap.size 3 1 (.slice (some ⟨g, 0, none⟩) (m' + 1) d) (m' + 1) (rowE (e2 :: r2)) := ownsRow_pop (last := [.int .i64 (e : Int)]) (by rw [rowE_len, List.length_cons, HM'.out]; omega) (by rw [rowE_cons] at hown; exact hown)
        go_wp2_with fail
        go_roundw
        case rel => exact ⟨m', e2, r2, by omega, hown', hB, HE', HM', HK'⟩
        case measure => simp [sliceLen]
      have hx : r = [] ∨ e ≠ k := .inr hek
      have hq : ((e : Int) == (k : Int)) = false := by simp; omega
      have HQ : Hid ((okC ⟨f0, f1, f2, f3⟩ && (if f0 = 0 then decide (f2 = 0) && sRun (k + 1) (e :: r) (xs.drop (k + 1)) else if f0 = 1 then decide (f1 = 0) && (inB f2 0 ((e : Int) - k - 1) && sRun (k + 1) ((k + 1 + f2.toNat) :: e :: r) (xs.drop (k + 1))) else false)) = v) := by
        unfold Hid; have := HK.out; rw [drop_at HXD.out, sRun_step hx] at this; exact this
      have p0 : wr.cell? ⟨b, off + k * 4, none⟩ = some (.int .i64 f0) := Sl.rec (f := ECommand.vs) (s := 4) (fun _ => rfl) (hs.below' hB) HX.out (j := 0) rfl
      have p1 : wr.cell? ⟨b, off + k * 4 + 1, none⟩ = some (.int .i64 f1) := Sl.rec (f := ECommand.vs) (s := 4) (fun _ => rfl) (hs.below' hB) HX.out (j := 1) rfl
      have p2 : wr.cell? ⟨b, off + k * 4 + 2, none⟩ = some (.int .i64 f2) := Sl.rec (f := ECommand.vs) (s := 4) (fun _ => rfl) (hs.below' hB) HX.out (j := 2) rfl
      have p3 : wr.cell? ⟨b, off + k * 4 + 3, none⟩ = some (.slice A3 n3 c3) := Sl.rec (f := ECommand.vs) (s := 4) (fun _ => rfl) (hs.below' hB) HX.out (j := 3) rfl
      have a3w := a3.below hB
      clear hx
      cases vE
      · have HF : Hid (false = v) := by unfold Hid; have := HQ.out; rw [okC] at this; dsimp only at this; rw [HVE.out] at this; simpa using this
        go_wp2_with fail
        refine (l22Expr_is A3 n3 c3 f3 false HVE.out _ a3w hwl).mono ?_
        rintro z w2 ⟨rfl, rfl⟩
        go_wp2
        go_ret
        exact ⟨ret_bool HF.out, hB⟩
      obtain ⟨vI, hvI⟩ : ∃ u, inB f1 0 5 = u := ⟨_, rfl⟩
      have HVI := Lib.hid hvI; clear hvI
      cases vI
      · have HF : Hid (false = v) := by unfold Hid; have := HQ.out; rw [okC] at this; dsimp only at this; rw [HVE.out, HVI.out] at this; simpa using this
        go_wp2_with fail
        refine (l22Expr_is A3 n3 c3 f3 true HVE.out _ a3w hwl).mono ?_
        rintro z w2 ⟨rfl, rfl⟩
        go_wp2_with fail
        refine (l00In_is f1 0 5 false HVI.out _).mono ?_
        rintro z w2 ⟨rfl, rfl⟩
        go_wp2
        go_ret
        exact ⟨ret_bool HF.out, hB⟩
      by_cases h0 : f0 = 0
      · subst h0
        by_cases h2 : f2 = 0
        rotate_left
        · have HF : Hid (false = v) := by unfold Hid; have := HQ.out; rw [okC] at this; dsimp only at this; rw [HVE.out, HVI.out, if_pos rfl, decide_eq_false h2] at this; simpa using this
          have e2 : (f2 != 0) = true := by simpa using h2
          clear h2
          go_wp2_with fail
          refine (l22Expr_is A3 n3 c3 f3 true HVE.out _ a3w hwl).mono ?_
          rintro z w2 ⟨rfl, rfl⟩
          go_wp2_with fail
          refine (l00In_is f1 0 5 true HVI.out _).mono ?_
          rintro z w2 ⟨rfl, rfl⟩
          go_wp2
          go_ret
          exact ⟨ret_bool HF.out, hB⟩
        subst h2
        have HN : Hid (sRun (k + 1) (e :: r) (xs.drop (k + 1)) = v) := by unfold Hid; have := HQ.out; rw [okC] at this; dsimp only at this; rw [HVE.out, HVI.out, if_pos rfl] at this; simpa using this
        go_wp2_with fail
        refine (l22Expr_is A3 n3 c3 f3 true HVE.out _ a3w hwl).mono ?_
        rintro z w2 ⟨rfl, rfl⟩
        go_wp2_with fail
        refine (l00In_is f1 0 5 true HVI.out _).mono ?_
        rintro z w2 ⟨rfl, rfl⟩
        go_wp2_with fail
        go_roundw
        case rel => exact ⟨k + 1, m, e, r, by omega, by omega, by go_num, hown, hB, HE, HM, HN⟩
        case measure => simp [intOf]; omega
      have z0 : (f0 == 0) = false := by simpa using h0
      by_cases h1 : f0 = 1
      rotate_left
      · have z1 : (f0 == 1) = false := by simpa using h1
        have HF : Hid (false = v) := by unfold Hid; have := HQ.out; rw [if_neg h0, if_neg h1] at this; simpa using this
        clear h0 h1
        go_wp2_with fail
        refine (l22Expr_is A3 n3 c3 f3 true HVE.out _ a3w hwl).mono ?_
        rintro z w2 ⟨rfl, rfl⟩
        go_wp2_with fail
        refine (l00In_is f1 0 5 true HVI.out _).mono ?_
        rintro z w2 ⟨rfl, rfl⟩
        go_wp2
        go_ret
        exact ⟨ret_bool HF.out, hB⟩
      subst h1
      clear h0 z0
      by_cases h1 : f1 = 0
      rotate_left
      · have z1 : (f1 != 0) = true := by simpa using h1
        have HF : Hid (false = v) := by unfold Hid; have := HQ.out; rw [if_neg (by omega), if_pos rfl, decide_eq_false h1] at this; simpa using this
        clear h1
        go_wp2_with fail
        refine (l22Expr_is A3 n3 c3 f3 true HVE.out _ a3w hwl).mono ?_
        rintro z w2 ⟨rfl, rfl⟩
        go_wp2_with fail
        refine (l00In_is f1 0 5 true HVI.out _).mono ?_
        rintro z w2 ⟨rfl, rfl⟩
        go_wp2_with fail
        go_quiet (fail)
        have hBq := below_drewN hB nq
        go_wp2_with fail
        go_ret
        exact ⟨ret_bool HF.out, by first | exact hBq | (rw [World.drewN_drewN]; exact below_drewN hB _)⟩
      subst h1
      have hen : e ≤ n := HE.out e (List.mem_cons_self ..)
      obtain ⟨vL, hvL⟩ : ∃ u, inB f2 0 ((e : Int) - (k : Int) - 1) = u := ⟨_, rfl⟩
      have HVL := Lib.hid hvL; clear hvL
      have hw0 : IntKind.i64.wrap (m : Int) = (m : Int) := IntWalk.i64_in _ (by omega)
      have hw1 : IntKind.i64.wrap ((e : Int) - (k : Int)) = (e : Int) - (k : Int) := IntWalk.i64_in _ (by omega)
      have hw2 : IntKind.i64.wrap ((e : Int) - (k : Int) - 1) = (e : Int) - (k : Int) - 1 := IntWalk.i64_in _ (by omega)
      cases vL
      · have HF : Hid (false = v) := by unfold Hid; have := HQ.out; rw [if_neg (by omega), if_pos rfl, HVL.out] at this; simpa using this
        go_wp2_with fail
        refine (l22Expr_is A3 n3 c3 f3 true HVE.out _ a3w hwl).mono ?_
        rintro z w2 ⟨rfl, rfl⟩
        go_wp2_with fail
        refine (l00In_is 0 0 5 true HVI.out _).mono ?_
        rintro z w2 ⟨rfl, rfl⟩
        go_wp2_with fail
        go_quiet ((go_at_call 57; exact quiet_eq (l00In_is f2 0 ((e : Int) - (k : Int) - 1) false HVL.out _)))
        go_wp2_with fail
        go_ret
        exact ⟨ret_bool HF.out, by first | exact below_drewN hB _ | (rw [World.drewN_drewN]; exact below_drewN hB _)⟩
      obtain ⟨l, rfl⟩ : ∃ l : Nat, f2 = l := ⟨f2.toNat, by have := (inB_iff _ _ _).1 HVL.out; omega⟩
      have hln : k + 1 + l ≤ n := by have := (inB_iff _ _ _).1 HVL.out; omega
      have HN : Hid (sRun (k + 1) ((k + 1 + l) :: e :: r) (xs.drop (k + 1)) = v) := by unfold Hid; have := HQ.out; rw [okC] at this; dsimp only at this; rw [HVE.out, HVI.out, if_neg (by omega), if_pos rfl, HVL.out, Int.toNat_natCast] at this; simpa using this
      have HE2 : Hid (∀ q ∈ (k + 1 + l) :: e :: r, q ≤ n) := by unfold Hid; intro q hq; rcases List.mem_cons.1 hq with rfl | hq; exact hln; exact HE.out q hq
      have HM2 : Hid ((e :: r).length = (m + 1)) := by unfold Hid; rw [List.length_cons, HM.out]
      go_wp2_with fail
      refine (l22Expr_is A3 n3 c3 f3 true HVE.out _ a3w hwl).mono ?_
      rintro z w2 ⟨rfl, rfl⟩
      go_wp2_with fail
      refine (l00In_is 0 0 5 true HVI.out _).mono ?_
      rintro z w2 ⟨rfl, rfl⟩
      go_wp2_with fail
      go_quiet ((go_at_call 57; exact quiet_eq (l00In_is (l : Int) 0 ((e : Int) - (k : Int) - 1) true HVL.out _)))
      have hBq : Below w.heap.size w (wr.drewN nq) := below_drewN hB nq
      have hownq : (wr.drewN nq).ownsRow w.heap.size 3 1 (.slice (some ⟨g, 0, none⟩) (m + 1) d) (m + 1) (rowE (e :: r)) := own_below' hown (quiet_below rfl)
      have q2 : (wr.drewN nq).cell? ⟨b, off + k * 4 + 2, none⟩ = some (.int .i64 (l : Int)) := p2
      clear hown hB p0 p1 p2 p3 a3w ct
      generalize wr.drewN nq = wq at hBq hownq q2 ⊢
      have hw3 : IntKind.i64.wrap ((k : Int) + 1 + (l : Int)) = ((k + 1 + l : Nat) : Int) := by rw [IntWalk.i64_in _ (by omega)]; omega
      go_wp2_with (at_builtin; refine wpList_app rfl _ _ _ rfl Try.underlying145 infoIntE rfl (by omega) w wq hownq hBq rfl 1 #[.int .i64 ((k + 1 + l : Nat) : Int)] rfl (laid_below _ _) (heap_alloc_new _ _) rfl (by simp [Value.oneCell']) (by omega) (by unfold maxLen; omega) (by omega) ?_; intro g2 cap w1 hown1 hB1; clear hownq hBq)
      go_roundw
      case rel => exact ⟨k + 1, (m + 1), k + 1 + l, e :: r, by omega, by omega, by go_num, by rw [rowE_cons]; exact hown1, hB1, HE2, HM2, HN⟩
      case measure => simp [intOf]; omega

set_option maxRecDepth 100000 in
theorem specIs_any (b0 o0 n0 c0 : Nat) (e0 : List ECommand) (x0 : List DCommand) (w : World) (s0 : Sl w b0 o0 (rows ECommand.vs e0)) (r0 : RdsCommand w e0) (d0 : e0.map (·.d) = x0) (h0 : x0.length = n0) (m0 : n0 ≤ 1048576) (t0 : sumCommand x0 ≤ 1048576) (v : Bool) (hv : validWhile x0 = v) :
    Calls Try.prog 56 #[.slice (some ⟨b0, o0, none⟩) n0 c0] w fun z w' => z = .returned (.bool v) ∧ Below w.heap.size w w' := by
  by_cases h8 : n0 ≤ 80
  · exact l22Is_is b0 o0 n0 c0 e0 x0 w s0 r0 d0 h0 h8 t0 v (by rw [← hv, validWhile, h0, decide_eq_true h8]; rfl)
  have HV : Hid (false = v) := by unfold Hid; rw [← hv, validWhile, h0, decide_eq_false h8]; rfl
  go_enter Try.func56, Try.ntmps56
  go_wp2
  go_ret
  exact ⟨ret_bool HV.out, Below.refl _ _⟩
