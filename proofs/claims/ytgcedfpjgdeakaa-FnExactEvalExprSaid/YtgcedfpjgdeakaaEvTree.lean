/- Trees in memory: equal, headOf, tailOf of the program. -/
import Derived.Test.YtgcedfpjgdeakaaTreeHeap
import Derived.Test.YtgcedfpjgdeakaaEvPlain
import Derived.LaidEqlPtr
namespace Go.Proofs.Ytgcedfpjgdeakaa
open Go.RowKit
set_option linter.all false

/-- What a pointer leads to is one tree. -/
theorem Tr.inj {B B' : Nat} {w : World} : ∀ {x y : T} {p : Option Addr}, Tr B w x p → Tr B' w y p → x = y
  | .nil, .nil, _, _, _ => rfl
  | .nil, .pair _ _, _, h, ⟨g, pa, pb, e, _⟩ => by rw [show _ = none from h] at e; cases e
  | .pair _ _, .nil, _, ⟨g, pa, pb, e, _⟩, h => by rw [show _ = none from h] at e; cases e
  | .pair a b, .pair c d, _, ⟨g, pa, pb, e, hg, hh, ha, hb⟩, ⟨g2, pa2, pb2, e2, hg2, hh2, ha2, hb2⟩ => by
    subst e
    injection e2 with e2
    injection e2 with e2
    subst e2
    rw [hh] at hh2
    injection hh2 with hh2
    injection hh2 with hc
    simp only [Array.mk.injEq, List.cons.injEq, Value.pointer.injEq] at hc
    obtain ⟨e3, e4, _⟩ := hc
    subst e3; subst e4
    rw [Tr.inj ha ha2, Tr.inj hb hb2]

theorem infoTree : (Try.prog.info? 104).map (fun i => i.size) = some 3 := by kernel_rfl
theorem eqlPtr_same (a : Addr) (w : World) : (binOp BinOp.eql 69 (.pointer (some a)) (.pointer (some a))).run Try.prog w = .ok (.bool true) w := by
  obtain ⟨j, hj⟩ : ∃ j, Try.prog.info? 104 = some j := by
    cases h : Try.prog.info? 104 with
    | none => have := infoTree; rw [h] at this; cases this
    | some j => exact ⟨j, rfl⟩
  exact run_eql_ptr_same w a Try.underlying69 hj
theorem eqlPtr_other {a b : Addr} {ca cb : Array Value} {ta tb : TypeId} {w : World} (hne : a ≠ b) (ha : w.heap[a.block]? = some (.cells ca ta (0, 0))) (hb : w.heap[b.block]? = some (.cells cb tb (0, 0))) :
    (binOp BinOp.eql 69 (.pointer (some a)) (.pointer (some b))).run Try.prog w = .ok (.bool false) w := by
  obtain ⟨j, hj, hs⟩ : ∃ j, Try.prog.info? 104 = some j ∧ j.size = 3 := by
    cases h : Try.prog.info? 104 with
    | none => have := infoTree; rw [h] at this; cases this
    | some j => have := infoTree; rw [h] at this; exact ⟨j, rfl, by injection this⟩
  exact run_eql_ptr_other w Try.underlying69 hj (by omega) hne ha hb
theorem eqlPtr_nil (b : Addr) (w : World) : (binOp BinOp.eql 69 (.pointer none) (.pointer (some b))).run Try.prog w = .ok (.bool false) w := by
  have h : ∀ d : Nat, (Op.equalIn (d + 1) 69 (.pointer none) (.pointer (some b))).run Try.prog w = .ok false w := fun d => by
    simp [Op.equalIn, run_underlying Try.underlying69]
  simp only [binOp]
  simp [Op.equal, Op.maxDepth, h 9999]

set_option maxRecDepth 100000 in
set_option maxHeartbeats 2000000 in
theorem equal_any (B : Nat) (x : T) : ∀ (y : T) (p q : Option Addr) (w : World), Tr B w x p → Tr B w y q →
    Calls Try.prog 68 #[.pointer p, .pointer q] w fun e w' => e = .returned (.bool (T.same x y)) ∧ ∃ n, w' = w.drewN n := by
  induction x with
  | nil =>
    intro y p q w hp hq
    have h' : p = none := hp
    subst h'
    cases y with
    | nil =>
      have h' : q = none := hq
      subst h'
      go_enter Try.func68, Try.ntmps68
      go_wp2_with fail
      go_ret
      exact ⟨rfl, 0, rfl⟩
    | pair c d =>
      obtain ⟨g, pa, pb, rfl, _⟩ := hq
      have heq := eqlPtr_nil ⟨g, 0, none⟩ w
      go_enter Try.func68, Try.ntmps68
      go_wp2_with fail
      go_quiet (fail)
      go_wp2_with fail
      all_goals
        go_ret
        exact ⟨ret_bool (by rw [T.same_false (by intro h; cases h)]), _, rfl⟩
  | pair a b iha ihb =>
    intro y p q w hp hq
    have HA := Lib.hid iha; have HB := Lib.hid ihb
    clear iha ihb
    cases y with
    | nil =>
      have h' : q = none := hq
      subst h'
      obtain ⟨g, pa, pb, rfl, _⟩ := hp
      go_enter Try.func68, Try.ntmps68
      go_wp2_with fail
      go_quiet (fail)
      go_wp2_with fail
      all_goals
        go_ret
        exact ⟨ret_bool (by rw [T.same_false (by intro h; cases h)]), _, rfl⟩
    | pair c d =>
      by_cases hpq : p = q
      · subst hpq
        have hxy := Tr.inj hp hq
        have HS : Hid (T.same (.pair a b) (.pair c d) = true) := by unfold Hid; rw [hxy]; exact (T.same_iff _ _).2 rfl
        obtain ⟨g, pa, pb, rfl, _⟩ := hp
        have heq := eqlPtr_same ⟨g, 0, none⟩ w
        clear hq hxy
        go_enter Try.func68, Try.ntmps68
        go_wp2_with fail
        go_ret
        exact ⟨ret_bool HS.out.symm, 0, rfl⟩
      · obtain ⟨g, pa, pb, rfl, hg, hh, hta, htb⟩ := hp
        obtain ⟨g2, pc, pd, rfl, hg2, hh2, htc, htd⟩ := hq
        have hne : ¬ g = g2 := fun e => hpq (by rw [e])
        have heq := eqlPtr_other (w := w) (a := ⟨g, 0, none⟩) (b := ⟨g2, 0, none⟩) (fun e => hne (by injection e)) hh hh2
        clear hpq
        have hc0 : w.cell? ⟨g, 0, none⟩ = some (.pointer pa) := by rw [cell_of_heap hh]; rfl
        have hc1 : w.cell? ⟨g, 1, none⟩ = some (.pointer pb) := by rw [cell_of_heap hh]; rfl
        have hc2 : w.cell? ⟨g, 2, none⟩ = some (.int .i64 ((T.pair a b).nodes : Int)) := by rw [cell_of_heap hh]; rfl
        have hd0 : w.cell? ⟨g2, 0, none⟩ = some (.pointer pc) := by rw [cell_of_heap hh2]; rfl
        have hd1 : w.cell? ⟨g2, 1, none⟩ = some (.pointer pd) := by rw [cell_of_heap hh2]; rfl
        have hd2 : w.cell? ⟨g2, 2, none⟩ = some (.int .i64 ((T.pair c d).nodes : Int)) := by rw [cell_of_heap hh2]; rfl
        have HN1 : Hid ((T.pair a b).nodes = (T.pair a b).nodes) := rfl
        obtain ⟨m1, hm1⟩ : ∃ m, (T.pair a b).nodes = m := ⟨_, rfl⟩
        obtain ⟨m2, hm2⟩ : ∃ m, (T.pair c d).nodes = m := ⟨_, rfl⟩
        rw [hm1] at hc2; rw [hm2] at hd2
        have HM1 := Lib.hid hm1; have HM2 := Lib.hid hm2
        clear hh hh2 hm1 hm2 HN1
        by_cases hm : m1 = m2
        · have hmb : ((m1 : Int) != (m2 : Int)) = false := by simp [hm]
          have HP := Lib.hid (T.same_pair a b c d)
          have HNE := Lib.hid hne
          cases hac : T.same a c with
          | false =>
            have HF : Hid (T.same (.pair a b) (.pair c d) = false) := by unfold Hid; rw [HP.out, hac]; rfl
            have HC := Lib.hid (fun W hp hq => (HA.out c pa pc W hp hq))
            rw [hac] at HC
            clear hac hm
            go_enter Try.func68, Try.ntmps68
            go_wp2_with fail
            go_quiet (fail)
            obtain ⟨w1, hw1⟩ : ∃ w1, w.drewN nq = w1 := ⟨_, rfl⟩
            have ta1 : Tr B w1 a pa := hw1 ▸ hta.drewN nq
            have tb1 : Tr B w1 b pb := hw1 ▸ htb.drewN nq
            have tc1 : Tr B w1 c pc := hw1 ▸ htc.drewN nq
            have td1 : Tr B w1 d pd := hw1 ▸ htd.drewN nq
            have k0 : w1.cell? ⟨g, 0, none⟩ = some (.pointer pa) := hw1 ▸ hc0
            have k1 : w1.cell? ⟨g, 1, none⟩ = some (.pointer pb) := hw1 ▸ hc1
            have k2 : w1.cell? ⟨g2, 0, none⟩ = some (.pointer pc) := hw1 ▸ hd0
            have k3 : w1.cell? ⟨g2, 1, none⟩ = some (.pointer pd) := hw1 ▸ hd1
            have HW1 := Lib.hid hw1
            rw [hw1]
            clear hw1 hc0 hc1 hc2 hd0 hd1 hd2 hta htb htc htd heq
            go_wp2_with fail
            go_quiet ((go_at_call_of 68 (Value.pointer pa); exact quiet_q (HC.out _ (ta1.drewN _) (tc1.drewN _))))
            go_wp2_with fail
            all_goals
              go_ret
              exact ⟨ret_bool HF.out.symm, _, by rw [← HW1.out, World.drewN_drewN]⟩
          | true =>
            have HF : Hid (T.same (.pair a b) (.pair c d) = T.same b d) := by unfold Hid; rw [HP.out, hac]; rfl
            have HC := Lib.hid (fun W hp hq => (HA.out c pa pc W hp hq))
            rw [hac] at HC
            have HD := Lib.hid (fun W hp hq => (HB.out d pb pd W hp hq))
            obtain ⟨r, hr⟩ : ∃ r, T.same b d = r := ⟨_, rfl⟩
            rw [hr] at HD HF
            clear hac hm hr
            cases r
            all_goals
              go_enter Try.func68, Try.ntmps68
              go_wp2_with fail
              go_quiet (fail)
              obtain ⟨w1, hw1⟩ : ∃ w1, w.drewN nq = w1 := ⟨_, rfl⟩
              have ta1 : Tr B w1 a pa := hw1 ▸ hta.drewN nq
              have tb1 : Tr B w1 b pb := hw1 ▸ htb.drewN nq
              have tc1 : Tr B w1 c pc := hw1 ▸ htc.drewN nq
              have td1 : Tr B w1 d pd := hw1 ▸ htd.drewN nq
              have k0 : w1.cell? ⟨g, 0, none⟩ = some (.pointer pa) := hw1 ▸ hc0
              have k1 : w1.cell? ⟨g, 1, none⟩ = some (.pointer pb) := hw1 ▸ hc1
              have k2 : w1.cell? ⟨g2, 0, none⟩ = some (.pointer pc) := hw1 ▸ hd0
              have k3 : w1.cell? ⟨g2, 1, none⟩ = some (.pointer pd) := hw1 ▸ hd1
              have HW1 := Lib.hid hw1
              rw [hw1]
              clear hw1 hc0 hc1 hc2 hd0 hd1 hd2 hta htb htc htd heq
              go_wp2_with fail
              go_quiet (first | (go_at_call_of 68 (Value.pointer pa); exact quiet_q (HC.out _ (ta1.drewN _) (tc1.drewN _))) | (go_at_call_of 68 (Value.pointer pb); exact quiet_q (HD.out _ (tb1.drewN _) (td1.drewN _))))
              go_wp2_with fail
              all_goals
                go_ret
                exact ⟨ret_bool HF.out.symm, _, by rw [← HW1.out, World.drewN_drewN]⟩
        · have hmb : ((m1 : Int) != (m2 : Int)) = true := by simp; omega
          have HF : Hid (T.same (.pair a b) (.pair c d) = false) := by
            unfold Hid
            refine T.same_false fun e => hm ?_
            rw [← HM1.out, ← HM2.out, e]
          clear hm
          go_enter Try.func68, Try.ntmps68
          go_wp2_with fail
          go_quiet (fail)
          go_wp2_with fail
          all_goals
            go_ret
            exact ⟨ret_bool HF.out.symm, _, rfl⟩

theorem headOf_any (B : Nat) (x : T) (p : Option Addr) (w : World) (h : Tr B w x p) :
    Calls Try.prog 66 #[.pointer p] w fun e w' => ∃ q, e = .returned (.pointer q) ∧ Tr B w x.hd q ∧ w = w' := by
  cases x with
  | nil =>
    have h' : p = none := h
    subst h'
    go_enter Try.func66, Try.ntmps66
    go_wp2_with fail
    go_ret
    exact ⟨none, rfl, rfl, rfl⟩
  | pair a b =>
    obtain ⟨g, pa, pb, rfl, hg, hh, ha, hb⟩ := h
    have hc : w.cell? ⟨g, 0, none⟩ = some (.pointer pa) := by rw [cell_of_heap hh]; rfl
    clear hh hb
    go_enter Try.func66, Try.ntmps66
    go_wp2_with fail
    go_ret
    exact ⟨pa, rfl, ha, rfl⟩
theorem tailOf_any (B : Nat) (x : T) (p : Option Addr) (w : World) (h : Tr B w x p) :
    Calls Try.prog 67 #[.pointer p] w fun e w' => ∃ q, e = .returned (.pointer q) ∧ Tr B w x.tl q ∧ w = w' := by
  cases x with
  | nil =>
    have h' : p = none := h
    subst h'
    go_enter Try.func67, Try.ntmps67
    go_wp2_with fail
    go_ret
    exact ⟨none, rfl, rfl, rfl⟩
  | pair a b =>
    obtain ⟨g, pa, pb, rfl, hg, hh, ha, hb⟩ := h
    have hc : w.cell? ⟨g, 1, none⟩ = some (.pointer pb) := by rw [cell_of_heap hh]; rfl
    clear hh ha
    go_enter Try.func67, Try.ntmps67
    go_wp2_with fail
    go_ret
    exact ⟨pb, rfl, hb, rfl⟩
end Go.Proofs.Ytgcedfpjgdeakaa
