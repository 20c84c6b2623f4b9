/- Parts of trees by the reference: l21Nil, l21Head, l21Tail; a shorter row of the call's own. -/
import Derived.Test.YtgcedfpjgdeakaaTreeItems
import Derived.Test.YtgcedfpjgdeakaaEvPlain
import Derived.Test.YtgcedfpjgdeakaaCopy
namespace Go.Proofs.Ytgcedfpjgdeakaa
open Go.RowKit
set_option linter.all false

theorem own_take {w : World} {base : Nat} {e : TypeId} {s : Nat} {A : Option Addr} {n c : Nat} {xs : List Value} (h : w.ownsRow base e s (.slice A n c) n xs) (m : Nat) (hm : m ≤ n) : w.ownsRow base e s (.slice A m c) m (xs.take (m * s)) := by
  have hl := h.1
  refine ⟨?_, ?_⟩
  · rw [List.length_take, hl, Nat.min_eq_left (Nat.mul_le_mul_right _ hm)]
  · rcases h.2 with ⟨hv, h0⟩ | ⟨g, cap, cur, hv, h1, hg, h3, h4, h5, h6⟩
    · left
      injection hv with a1 a2 a3
      subst a1; subst a3
      have : m = 0 := by omega
      subst this
      exact ⟨rfl, rfl⟩
    · right
      injection hv with a1 a2 a3
      subst a1; subst a3
      refine ⟨g, c, cur, rfl, h1, hg, by omega, h4, h5, ?_⟩
      rw [← h6, List.take_take, Nat.min_eq_left (Nat.mul_le_mul_right _ hm)]

/-- A slice of a list of nodes that holds a tree. -/
theorem src_tree {w : World} {b off c : Nat} {xs : List Bool} {l m o' : Nat} {a : T} {r : List Bool} (hs : Sl w b off (xs.map .bool)) (hd : xs.drop l = a.enc ++ r) (hm : m = a.nodes) (ho : m = 0 ∨ o' = off + l * 1) :
    Src 1 w (.slice (some ⟨b, o', none⟩) m c) m (a.enc.map .bool) := by
  have hap := a.nodes_pos
  have ho2 : o' = off + l * 1 := by omega
  subst ho2
  refine Src.of_sl ⟨hs.1, fun j u hu => ?_⟩ (by simp [T.length_enc, hm])
  have hj : j < a.enc.length := by have := (List.getElem?_eq_some_iff.1 hu).1; simpa using this
  rw [show off + l * 1 + j = off + (l + j) by omega]
  refine hs.2 (l + j) u ?_
  rw [List.getElem?_map, ← List.getElem?_drop, hd, List.getElem?_append_left hj, ← List.getElem?_map]
  exact hu

theorem l21Nil_any (w : World) : Calls Try.prog 88 #[] w fun e w' => ∃ v, e = .returned v ∧ w'.ownsRow w.heap.size 4 1 v 1 [.bool false] ∧ Below w.heap.size w w' := by
  have hown0 : (w.alloc (.cells #[.bool false] 4)).ownsRow w.heap.size 4 1 (.slice (some ⟨w.heap.size, 0, none⟩) 1 1) 1 [.bool false] :=
    ⟨rfl, .inr ⟨w.heap.size, 1, #[.bool false], rfl, Nat.le_refl _, heap_alloc_new _ _, Nat.le_refl _, by simp [maxLen], rfl, rfl⟩⟩
  go_enter Try.func88, Try.ntmps88
  go_wp2_with fail
  go_ret
  exact ⟨_, rfl, hown0, laid_below _ _⟩

set_option maxRecDepth 100000 in
set_option maxHeartbeats 1000000 in
theorem l21Head_any (b off n c : Nat) (x : T) (w : World) (hs : Sl w b off (x.enc.map .bool)) (hl : x.nodes = n) (hn : n ≤ 4194304) (hc : n ≤ c) :
    Calls Try.prog 56 #[.slice (some ⟨b, off, none⟩) n c] w fun e w' => ∃ v, e = .returned v ∧ w'.ownsRow w.heap.size 4 1 v x.hd.nodes (x.hd.enc.map .bool) ∧ Below w.heap.size w w' := by
  cases x with
  | nil =>
    obtain rfl : n = 1 := by rw [← hl]; rfl
    have hca : w.cell? ⟨b, off, none⟩ = some (.bool false) := hs.at (j := 0) (u := .bool false) (by rfl)
    go_enter Try.func56, Try.ntmps56
    go_wp2_with fail
    refine (l21Nil_any _).mono ?_
    rintro e w' ⟨v, rfl, own, hb⟩
    go_wp2_with fail
    go_ret
    exact ⟨v, rfl, own, hb⟩
  | pair a d =>
    have HL : Hid ((T.pair a d).enc.length = n) := by unfold Hid; rw [T.length_enc, hl]
    have hca : w.cell? ⟨b, off, none⟩ = some (.bool true) := hs.at (j := 0) (u := .bool true) (by rfl)
    have HD : Hid ((T.pair a d).enc.drop 1 = a.enc ++ d.enc) := rfl
    have hap := a.nodes_pos
    have hn1 : 1 + a.nodes + d.nodes = n := hl
    have hdp := d.nodes_pos
    obtain ⟨m, hm⟩ : ∃ m, m = a.nodes := ⟨_, rfl⟩
    obtain ⟨o', ho', hsl⟩ := run_slice_part (P := Try.prog) 26 4 Try.underlying26 infoBoolS b off n c 1 m 1 (1 + (m : Int)) rfl (by omega) (by omega)
    have HSRC := Lib.hid (src_tree (c := c - 1) hs HD.out hm ho')
    have HM := Lib.hid hm
    have HH : Hid ((T.pair a d).hd = a) := rfl
    rw [← hm] at hap hn1
    have HS := Lib.hid hs
    clear hs hl ho' hm
    go_enter Try.func56, Try.ntmps56
    go_wp2_with fail
    refine (l21End_enc b off n c 1 (T.pair a d).enc a d.enc _ HD.out HS.out HL.out (by omega) (by omega)).mono ?_
    rintro e w1 ⟨rfl, rfl⟩
    rw [← HM.out]
    have e1 : ((1 + m : Nat) : Int) = 1 + (m : Int) := by omega
    rw [e1]
    clear e1
    go_wp2_with fail
    refine (l21Own_any _ m a.enc _ HSRC.out (by omega)).mono ?_
    rintro e w1 ⟨v, rfl, own, hb⟩
    go_wp2_with fail
    go_ret
    exact ⟨v, rfl, by rw [HH.out, ← HM.out]; exact own, hb⟩

set_option maxRecDepth 100000 in
set_option maxHeartbeats 1000000 in
theorem l21Tail_any (b off n c : Nat) (x : T) (w : World) (hs : Sl w b off (x.enc.map .bool)) (hl : x.nodes = n) (hn : n ≤ 4194304) (hc : n ≤ c) :
    Calls Try.prog 57 #[.slice (some ⟨b, off, none⟩) n c] w fun e w' => ∃ v, e = .returned v ∧ w'.ownsRow w.heap.size 4 1 v x.tl.nodes (x.tl.enc.map .bool) ∧ Below w.heap.size w w' := by
  cases x with
  | nil =>
    obtain rfl : n = 1 := by rw [← hl]; rfl
    have hca : w.cell? ⟨b, off, none⟩ = some (.bool false) := hs.at (j := 0) (u := .bool false) (by rfl)
    go_enter Try.func57, Try.ntmps57
    go_wp2_with fail
    refine (l21Nil_any _).mono ?_
    rintro e w' ⟨v, rfl, own, hb⟩
    go_wp2_with fail
    go_ret
    exact ⟨v, rfl, own, hb⟩
  | pair a d =>
    have HL : Hid ((T.pair a d).enc.length = n) := by unfold Hid; rw [T.length_enc, hl]
    have hca : w.cell? ⟨b, off, none⟩ = some (.bool true) := hs.at (j := 0) (u := .bool true) (by rfl)
    have HD : Hid ((T.pair a d).enc.drop 1 = a.enc ++ d.enc) := rfl
    have HD2 : Hid ((T.pair a d).enc.drop (1 + a.nodes) = d.enc ++ []) := by unfold Hid; rw [← List.drop_drop, HD.out, ← T.length_enc, List.drop_left, List.append_nil]
    have hap := a.nodes_pos
    have hn1 : 1 + a.nodes + d.nodes = n := hl
    have hdp := d.nodes_pos
    obtain ⟨m, hm⟩ : ∃ m, m = a.nodes := ⟨_, rfl⟩
    obtain ⟨m2, hm2⟩ : ∃ m, m = d.nodes := ⟨_, rfl⟩
    obtain ⟨o', ho', hsl0⟩ := run_slice_tailR (P := Try.prog) 26 4 Try.underlying26 infoBoolS b off n c (1 + m) (1 + (m : Int)) (by omega) (by omega) (by omega)
    have em : n - (1 + m) = m2 := by omega
    rw [em] at ho' hsl0
    have hsl := hsl0
    rw [← hm] at HD2
    have HSRC := Lib.hid (src_tree (c := c - (1 + m)) hs HD2.out hm2 ho')
    have HM := Lib.hid hm; have HM2 := Lib.hid hm2
    have HH : Hid ((T.pair a d).tl = d) := rfl
    rw [← hm] at hap hn1
    rw [← hm2] at hdp hn1
    have HS := Lib.hid hs
    clear hs hl ho' hm hm2 em hsl0
    go_enter Try.func57, Try.ntmps57
    go_wp2_with fail
    refine (l21End_enc b off n c 1 (T.pair a d).enc a d.enc _ HD.out HS.out HL.out (by omega) (by omega)).mono ?_
    rintro e w1 ⟨rfl, rfl⟩
    rw [← HM.out]
    have e1 : ((1 + m : Nat) : Int) = 1 + (m : Int) := by omega
    rw [e1]
    clear e1
    go_wp2_with fail
    refine (l21Own_any _ m2 d.enc _ HSRC.out (by omega)).mono ?_
    rintro e w1 ⟨v, rfl, own, hb⟩
    go_wp2_with fail
    go_ret
    exact ⟨v, rfl, by rw [HH.out, ← HM2.out]; exact own, hb⟩
end Go.Proofs.Ytgcedfpjgdeakaa
