/- exprValue of the program: the value of an expression as a tree in memory, or a panic. -/
import Derived.Test.YtgcedfpjgdeakaaEvTree
import Derived.Recover
namespace Go.Proofs.Ytgcedfpjgdeakaa
open Go.RowKit
set_option linter.all false

/-- A store of trees: a row of pointers. -/
structure StT (w : World) (g off : Nat) (σ : List T) (ps : List (Option Addr)) : Prop where
  sl : Sl w g off (ps.map Value.pointer)
  len : ps.length = σ.length
  tr : ∀ (v : Nat) (t : T) (p : Option Addr), σ[v]? = some t → ps[v]? = some p → Tr w.heap.size w t p
theorem StT.step {w w' : World} {g off : Nat} {σ : List T} {ps : List (Option Addr)} (h : StT w g off σ ps) (hb : Below w.heap.size w w') : StT w' g off σ ps :=
  ⟨h.sl.below' hb, h.len, fun v t p h1 h2 => (h.tr v t p h1 h2).step hb⟩

def fullP : List PanicEntry := [{ v := .iface 106 (.agg #[]), recovered := false }]
/-- What an evaluation gives: a tree and the place behind, or the panic. -/
def EvPost (o : Option T) (k : Nat) (w : World) : Ending → World → Prop := fun e w' =>
  Below w.heap.size w w' ∧ ((∃ t p, o = some t ∧ e = .returned (.tuple #[.pointer p, .int .i64 k]) ∧ Tr w'.heap.size w' t p) ∨ (o = none ∧ e = .panicked fullP))
theorem EvPost.yes {o : Option T} {k : Nat} {w w' : World} {t : T} {p : Option Addr} (ho : o = some t) (ht : Tr w'.heap.size w' t p) (hb : Below w.heap.size w w') : EvPost o k w (.returned (.tuple #[.pointer p, .int .i64 k])) w' := ⟨hb, .inl ⟨t, p, ho, rfl, ht⟩⟩
theorem EvPost.no {o : Option T} {k : Nat} {w w' : World} (ho : o = none) (hb : Below w.heap.size w w') : EvPost o k w (.panicked fullP) w' := ⟨hb, .inr ⟨ho, rfl⟩⟩

theorem bodyPost_panic {P : Program} {f : Func} {R : Ending → World → Prop} {ch : List PanicEntry} {a : Act} {w : World} (hd : a.defers = []) (h : R (.panicked ch) w) : bodyPost P f R (Exit.panic ch) a w := ⟨hd, h⟩
theorem drop_cons_at {α : Type} {xs : List α} {k : Nat} {x : α} {r : List α} (h : xs.drop k = x :: r) : xs[k]? = some x ∧ xs.drop (k + 1) = r ∧ k < xs.length := drop_head h
theorem drop_enc {xs : List R2} {k : Nat} {e : E} {r : List R2} (h : xs.drop k = e.enc ++ r) : xs.drop (k + e.len) = r := by
  rw [← List.drop_drop, h]; unfold E.len; rw [List.drop_left]

set_option maxRecDepth 100000 in
set_option maxHeartbeats 8000000 in
theorem exprValue_any (A : Option Addr) (n c g off m c2 : Nat) (xs : List R2) (σ : List T) (ps : List (Option Addr)) (hn : n ≤ 40) (hσ : ∀ t ∈ σ, t.nodes ≤ 2000) (hm : σ.length = m) (hm6 : m = 6) (x : E) : ∀ (k : Nat) (r : List R2) (w : World), xs.drop k = x.enc ++ r → x.ok →
    Args 2 w A n (rows R2.vs xs) → StT w g off σ ps →
    Calls Try.prog 35 #[.slice A n c, .int .i64 k, .slice (some ⟨g, off, none⟩) m c2] w (EvPost (x.val σ) (k + x.len) w) := by
  have HM : Hid (σ.length = 6) := hm.trans hm6
  have HM6 := Lib.hid hm6
  have HSN := Lib.hid hσ
  clear hm hσ hm6
  induction x with
  | nil =>
    intro k r w hd hok ha hst
    have HL : Hid (xs.length = n) := by have := ha.1; rw [rows_len R2.vs_len] at this; unfold Hid; omega
    obtain ⟨hx, hd1, hk⟩ := drop_cons_at (show xs.drop k = ⟨0, 0⟩ :: (r) from by rw [hd]; simp [E.enc])
    have hkn : k < n := by have := HL.out; omega
    have HD1 := Lib.hid hd1
    obtain ⟨bb, o, rfl, hs⟩ := ha.sl hkn
    obtain ⟨p0, p1⟩ := hs.rec2 hx
    dsimp only at p0 p1
    have HX := Lib.hid hx
    have HS := Lib.hid hs
    have HA := Lib.hid ha
    have HST := Lib.hid hst
    have hfol : ((eFol ⟨0, 0⟩ : Nat) : Int) = 0 := by first | rfl | (simp [eFol])
    have FIN : Hid (∀ W, Below w.heap.size w W → EvPost (E.nil.val σ) (k + E.nil.len) w (.returned (.tuple #[.pointer none, .int .i64 (k + 1 : Nat)])) W) := fun W hb => EvPost.yes rfl rfl hb
    clear hx hd hd1 hst ha hok hs
    go_enter Try.func35, Try.ntmps35
    go_wp2_with fail
    refine (exprFollow_any ⟨0, 0⟩ _).mono ?_
    rintro e w1 ⟨rfl, b1⟩
    rw [hfol]
    have HB1 := Lib.hid b1
    obtain ⟨q0, q1⟩ := (HS.out.below' b1).rec2 HX.out
    dsimp only at q0 q1
    clear hfol b1 p0 p1
    go_wp2_with fail
    go_ret2
    exact FIN.out _ HB1.out
  | var v =>
    intro k r w hd hok ha hst
    have HL : Hid (xs.length = n) := by have := ha.1; rw [rows_len R2.vs_len] at this; unfold Hid; omega
    obtain ⟨hx, hd1, hk⟩ := drop_cons_at (show xs.drop k = ⟨1, (v : Int)⟩ :: (r) from by rw [hd]; simp [E.enc])
    have hkn : k < n := by have := HL.out; omega
    have HD1 := Lib.hid hd1
    obtain ⟨bb, o, rfl, hs⟩ := ha.sl hkn
    obtain ⟨p0, p1⟩ := hs.rec2 hx
    dsimp only at p0 p1
    have HX := Lib.hid hx
    have HS := Lib.hid hs
    have HA := Lib.hid ha
    have HST := Lib.hid hst
    have hfol : ((eFol ⟨1, (v : Int)⟩ : Nat) : Int) = 0 := by first | rfl | (simp [eFol])
    have hv5 : v ≤ 5 := hok
    obtain ⟨t, ht⟩ : ∃ t, σ[v]? = some t := ⟨_, List.getElem?_eq_getElem (by have := HM.out; omega)⟩
    obtain ⟨p, hp⟩ : ∃ p, ps[v]? = some p := ⟨_, List.getElem?_eq_getElem (by have := hst.len; have := HM.out; omega)⟩
    have htr := Lib.hid (hst.tr v t p ht hp)
    have hgd : σ.getD v T.nil = t := by rw [List.getD_eq_getElem?_getD, ht]; rfl
    have FIN : Hid (∀ W, Below w.heap.size w W → EvPost ((E.var v).val σ) (k + (E.var v).len) w (.returned (.tuple #[.pointer p, .int .i64 (k + 1 : Nat)])) W) := fun W hb => EvPost.yes (by show some (σ.getD v T.nil) = some t; rw [hgd]) (htr.out.step hb) hb
    have hvI : ((v : Nat) : Int) < (m : Int) := by have := HM6.out; omega
    have HP : Hid ((ps.map Value.pointer)[v]? = some (.pointer p)) := by unfold Hid; rw [List.getElem?_map, hp]; rfl
    clear hx hd hd1 hst ha hok hs ht hp hgd
    go_enter Try.func35, Try.ntmps35
    go_wp2_with fail
    refine (exprFollow_any ⟨1, (v : Int)⟩ _).mono ?_
    rintro e w1 ⟨rfl, b1⟩
    rw [hfol]
    have HB1 := Lib.hid b1
    obtain ⟨q0, q1⟩ := (HS.out.below' b1).rec2 HX.out
    dsimp only at q0 q1
    clear hfol b1 p0 p1
    have c0 := (HST.out.sl.below' HB1.out).at HP.out
    go_wp2_with fail
    go_ret2
    exact FIN.out _ HB1.out
  | cons a b iha ihb =>
    intro k r w hd hok ha hst
    have IHA := Lib.hid iha; have IHB := Lib.hid ihb
    clear iha ihb
    have HL : Hid (xs.length = n) := by have := ha.1; rw [rows_len R2.vs_len] at this; unfold Hid; omega
    obtain ⟨hx, hd1, hk⟩ := drop_cons_at (show xs.drop k = ⟨2, 0⟩ :: (a.enc ++ (b.enc ++ r)) from by rw [hd]; simp [E.enc])
    have hkn : k < n := by have := HL.out; omega
    have HD1 := Lib.hid hd1
    obtain ⟨bb, o, rfl, hs⟩ := ha.sl hkn
    obtain ⟨p0, p1⟩ := hs.rec2 hx
    dsimp only at p0 p1
    have HX := Lib.hid hx
    have HS := Lib.hid hs
    have HA := Lib.hid ha
    have HST := Lib.hid hst
    have hfol : ((eFol ⟨2, 0⟩ : Nat) : Int) = 2 := by first | rfl | (simp [eFol])
    obtain ⟨hoka, hokb⟩ := hok
    have hlen : (E.cons a b).len = 1 + a.len + b.len := by simp [E.len, E.enc]; omega
    have hd2 := drop_enc hd1
    have hla : 1 + k + a.len + b.len ≤ n := by
      have := congrArg List.length hd1
      rw [List.length_drop, List.length_append, List.length_append, HL.out] at this
      unfold E.len; omega
    obtain ⟨l1, hl1⟩ : ∃ l, a.len = l := ⟨_, rfl⟩
    obtain ⟨l2, hl2⟩ : ∃ l, b.len = l := ⟨_, rfl⟩
    have HL1 := Lib.hid hl1; have HL2 := Lib.hid hl2
    rw [hl1, hl2] at hla
    rw [hl1] at hd2
    have HD2 := Lib.hid hd2
    have HNA : Hid (a.val σ = none → ∀ W, Below w.heap.size w W → EvPost ((E.cons a b).val σ) (k + (E.cons a b).len) w (.panicked fullP) W) := fun h W hb => EvPost.no (by simp only [E.val]; rw [h]; rfl) hb
    have HNB : Hid (∀ t, a.val σ = some t → b.val σ = none → ∀ W, Below w.heap.size w W → EvPost ((E.cons a b).val σ) (k + (E.cons a b).len) w (.panicked fullP) W) := fun t h0 h W hb => EvPost.no (by simp only [E.val]; rw [h0, h]; rfl) hb
    have HYES : Hid (∀ t u q W, a.val σ = some t → b.val σ = some u → ¬ 2000 < 1 + t.nodes + u.nodes → Tr W.heap.size W (T.pair t u) q → Below w.heap.size w W → EvPost ((E.cons a b).val σ) (k + (E.cons a b).len) w (.returned (.tuple #[.pointer q, .int .i64 (k + 1 + l1 + l2 : Nat)])) W) := by
      intro t u q W h1 h2 h4 h3 h5
      rw [show k + (E.cons a b).len = k + 1 + l1 + l2 by rw [hlen, hl1, hl2]; omega]
      exact EvPost.yes (by simp only [E.val]; rw [h1, h2, Option.bind_some, Option.bind_some, consT_yes h4]) h3 h5
    have HBIG : Hid (∀ t u W, a.val σ = some t → b.val σ = some u → 2000 < 1 + t.nodes + u.nodes → Below w.heap.size w W → EvPost ((E.cons a b).val σ) (k + (E.cons a b).len) w (.panicked fullP) W) := by
      intro t u W h1 h2 h4 h5
      exact EvPost.no (by simp only [E.val]; rw [h1, h2, Option.bind_some, Option.bind_some, consT_no h4]) h5
    clear hx hd hd1 hst ha hs hl1 hl2 hlen hd2
    go_enter Try.func35, Try.ntmps35
    go_wp2_with fail
    refine (exprFollow_any ⟨2, 0⟩ _).mono ?_
    rintro e w1 ⟨rfl, b1⟩
    rw [hfol]
    have HB1 := Lib.hid b1
    obtain ⟨q0, q1⟩ := (HS.out.below' b1).rec2 HX.out
    dsimp only at q0 q1
    clear hfol b1 p0 p1
    go_wp2_with fail
    refine (IHA.out (k + 1) (b.enc ++ r) w1 HD1.out hoka (HA.out.below HB1.out) (HST.out.step HB1.out)).mono ?_
    rintro e w2 ⟨b2, (⟨t, p, hv, rfl, ht⟩ | ⟨hv, rfl⟩)⟩
    rotate_left
    · have FIN := Lib.hid (HNA.out hv _ (below_step HB1.out b2))
      clear b2 hv
      go_wp2_with fail
      exact bodyPost_panic rfl FIN.out
    have HB2 := Lib.hid (below_step HB1.out b2)
    rw [HL1.out]
    have HT := Lib.hid ht
    have HV := Lib.hid hv
    clear b2 ht hv
    go_wp2_with fail
    refine (IHB.out (k + 1 + l1) r w2 HD2.out hokb (HA.out.below HB2.out) (HST.out.step HB2.out)).mono ?_
    rintro e w3 ⟨b3, (⟨u, p3, hu, rfl, htu⟩ | ⟨hu, rfl⟩)⟩
    rotate_left
    · have FIN := Lib.hid (HNB.out t HV.out hu _ (below_step HB2.out b3))
      clear b3 hu
      go_wp2_with fail
      exact bodyPost_panic rfl FIN.out
    have HB3 := Lib.hid (below_step HB2.out b3)
    rw [HL2.out]
    have HNT := Lib.hid (E.val_nodes HSN.out a t HV.out)
    have HNU := Lib.hid (E.val_nodes HSN.out b u hu)
    have HVU := Lib.hid hu
    have HTU := Lib.hid htu
    have HT3 := Lib.hid (HT.out.step b3)
    obtain ⟨q0, q1⟩ := (HS.out.below' HB3.out).rec2 HX.out
    dsimp only at q0 q1
    clear b3 hu htu
    go_wp2_with fail
    refine (pair_any t u p p3 w3 HT3.out HTU.out (by have := HNT.out; have := HNU.out; omega)).mono ?_
    rintro e w4 ⟨p4, rfl, ht4, b4⟩
    have HB4 := Lib.hid (below_step HB3.out b4)
    obtain ⟨g4, pa4, pb4, hp4, hg4, hh4, _, _⟩ := id ht4
    have hc4 : w4.cell? ⟨g4, 2, none⟩ = some (.int .i64 ((T.pair t u).nodes : Int)) := by rw [cell_of_heap hh4]; rfl
    obtain ⟨z, hz⟩ : ∃ z, (T.pair t u).nodes = z := ⟨_, rfl⟩
    rw [hz] at hc4
    have hz2 : z = 1 + t.nodes + u.nodes := hz.symm
    have HZ := Lib.hid hz2
    have HT4 := Lib.hid ht4
    subst hp4
    clear b4 ht4 hh4 hz hz2 hg4
    by_cases hbig : 2000 < z
    · have FIN := Lib.hid (HBIG.out t u w4 HV.out HVU.out (by rw [← HZ.out]; exact hbig) HB4.out)
      have hbI : (2000 : Int) < (z : Int) := by omega
      clear hbig
      go_wp2_with fail
      exact bodyPost_panic rfl FIN.out
    · have FIN := Lib.hid (HYES.out t u _ w4 HV.out HVU.out (by rw [← HZ.out]; exact hbig) HT4.out HB4.out)
      have hbI : ¬ (2000 : Int) < (z : Int) := by omega
      clear hbig
      go_wp2_with fail
      go_ret2
      exact FIN.out
  | head a iha =>
    intro k r w hd hok ha hst
    have IHA := Lib.hid iha
    clear iha
    have HL : Hid (xs.length = n) := by have := ha.1; rw [rows_len R2.vs_len] at this; unfold Hid; omega
    obtain ⟨hx, hd1, hk⟩ := drop_cons_at (show xs.drop k = ⟨3, 0⟩ :: (a.enc ++ r) from by rw [hd]; simp [E.enc])
    have hkn : k < n := by have := HL.out; omega
    have HD1 := Lib.hid hd1
    obtain ⟨bb, o, rfl, hs⟩ := ha.sl hkn
    obtain ⟨p0, p1⟩ := hs.rec2 hx
    dsimp only at p0 p1
    have HX := Lib.hid hx
    have HS := Lib.hid hs
    have HA := Lib.hid ha
    have HST := Lib.hid hst
    have hfol : ((eFol ⟨3, 0⟩ : Nat) : Int) = 1 := by first | rfl | (simp [eFol])
    have hoka : a.ok := hok
    have hlen : (E.head a).len = 1 + a.len := by simp [E.len, E.enc]; omega
    have hla : a.len ≤ n := by
      have := congrArg List.length hd1
      rw [List.length_drop, List.length_append, HL.out] at this
      unfold E.len; omega
    obtain ⟨l1, hl1⟩ : ∃ l, a.len = l := ⟨_, rfl⟩
    have HL1 := Lib.hid hl1
    rw [hl1] at hla
    have HNO : Hid (a.val σ = none → ∀ W, Below w.heap.size w W → EvPost ((E.head a).val σ) (k + (E.head a).len) w (.panicked fullP) W) := fun h W hb => EvPost.no (by simp only [E.val]; rw [h]; rfl) hb
    have HYES : Hid (∀ t q W, a.val σ = some t → Tr W.heap.size W t.hd q → Below w.heap.size w W → EvPost ((E.head a).val σ) (k + (E.head a).len) w (.returned (.tuple #[.pointer q, .int .i64 (k + 1 + l1 : Nat)])) W) := by
      intro t q W h1 h2 h3
      rw [show k + (E.head a).len = k + 1 + l1 by rw [hlen, hl1]; omega]
      exact EvPost.yes (by simp only [E.val]; rw [h1]; rfl) h2 h3
    clear hx hd hd1 hst ha hok hs hl1 hlen
    go_enter Try.func35, Try.ntmps35
    go_wp2_with fail
    refine (exprFollow_any ⟨3, 0⟩ _).mono ?_
    rintro e w1 ⟨rfl, b1⟩
    rw [hfol]
    have HB1 := Lib.hid b1
    obtain ⟨q0, q1⟩ := (HS.out.below' b1).rec2 HX.out
    dsimp only at q0 q1
    clear hfol b1 p0 p1
    go_wp2_with fail
    refine (IHA.out (k + 1) r w1 HD1.out hoka (HA.out.below HB1.out) (HST.out.step HB1.out)).mono ?_
    rintro e w2 ⟨b2, (⟨t, p, hv, rfl, ht⟩ | ⟨hv, rfl⟩)⟩
    · have HB2 := Lib.hid (below_step HB1.out b2)
      rw [HL1.out]
      obtain ⟨q0, q1⟩ := (HS.out.below' HB2.out).rec2 HX.out
      dsimp only at q0 q1
      have HT := Lib.hid ht
      have HV := Lib.hid hv
      clear b2 ht hv
      go_wp2_with fail
      refine (headOf_any _ t p _ HT.out).mono ?_
      rintro e w' ⟨q, rfl, hq, rfl⟩
      have FIN := Lib.hid (HYES.out t q _ HV.out hq HB2.out)
      clear hq
      go_wp2_with fail
      go_ret2
      exact FIN.out
    · have FIN := Lib.hid (HNO.out hv _ (below_step HB1.out b2))
      clear b2 hv
      go_wp2_with fail
      exact bodyPost_panic rfl FIN.out
  | tail a iha =>
    intro k r w hd hok ha hst
    have IHA := Lib.hid iha
    clear iha
    have HL : Hid (xs.length = n) := by have := ha.1; rw [rows_len R2.vs_len] at this; unfold Hid; omega
    obtain ⟨hx, hd1, hk⟩ := drop_cons_at (show xs.drop k = ⟨4, 0⟩ :: (a.enc ++ r) from by rw [hd]; simp [E.enc])
    have hkn : k < n := by have := HL.out; omega
    have HD1 := Lib.hid hd1
    obtain ⟨bb, o, rfl, hs⟩ := ha.sl hkn
    obtain ⟨p0, p1⟩ := hs.rec2 hx
    dsimp only at p0 p1
    have HX := Lib.hid hx
    have HS := Lib.hid hs
    have HA := Lib.hid ha
    have HST := Lib.hid hst
    have hfol : ((eFol ⟨4, 0⟩ : Nat) : Int) = 1 := by first | rfl | (simp [eFol])
    have hoka : a.ok := hok
    have hlen : (E.tail a).len = 1 + a.len := by simp [E.len, E.enc]; omega
    have hla : a.len ≤ n := by
      have := congrArg List.length hd1
      rw [List.length_drop, List.length_append, HL.out] at this
      unfold E.len; omega
    obtain ⟨l1, hl1⟩ : ∃ l, a.len = l := ⟨_, rfl⟩
    have HL1 := Lib.hid hl1
    rw [hl1] at hla
    have HNO : Hid (a.val σ = none → ∀ W, Below w.heap.size w W → EvPost ((E.tail a).val σ) (k + (E.tail a).len) w (.panicked fullP) W) := fun h W hb => EvPost.no (by simp only [E.val]; rw [h]; rfl) hb
    have HYES : Hid (∀ t q W, a.val σ = some t → Tr W.heap.size W t.tl q → Below w.heap.size w W → EvPost ((E.tail a).val σ) (k + (E.tail a).len) w (.returned (.tuple #[.pointer q, .int .i64 (k + 1 + l1 : Nat)])) W) := by
      intro t q W h1 h2 h3
      rw [show k + (E.tail a).len = k + 1 + l1 by rw [hlen, hl1]; omega]
      exact EvPost.yes (by simp only [E.val]; rw [h1]; rfl) h2 h3
    clear hx hd hd1 hst ha hok hs hl1 hlen
    go_enter Try.func35, Try.ntmps35
    go_wp2_with fail
    refine (exprFollow_any ⟨4, 0⟩ _).mono ?_
    rintro e w1 ⟨rfl, b1⟩
    rw [hfol]
    have HB1 := Lib.hid b1
    obtain ⟨q0, q1⟩ := (HS.out.below' b1).rec2 HX.out
    dsimp only at q0 q1
    clear hfol b1 p0 p1
    go_wp2_with fail
    refine (IHA.out (k + 1) r w1 HD1.out hoka (HA.out.below HB1.out) (HST.out.step HB1.out)).mono ?_
    rintro e w2 ⟨b2, (⟨t, p, hv, rfl, ht⟩ | ⟨hv, rfl⟩)⟩
    · have HB2 := Lib.hid (below_step HB1.out b2)
      rw [HL1.out]
      obtain ⟨q0, q1⟩ := (HS.out.below' HB2.out).rec2 HX.out
      dsimp only at q0 q1
      have HT := Lib.hid ht
      have HV := Lib.hid hv
      clear b2 ht hv
      go_wp2_with fail
      refine (tailOf_any _ t p _ HT.out).mono ?_
      rintro e w' ⟨q, rfl, hq, rfl⟩
      have FIN := Lib.hid (HYES.out t q _ HV.out hq HB2.out)
      clear hq
      go_wp2_with fail
      go_ret2
      exact FIN.out
    · have FIN := Lib.hid (HNO.out hv _ (below_step HB1.out b2))
      clear b2 hv
      go_wp2_with fail
      exact bodyPost_panic rfl FIN.out
  | same a b iha ihb =>
    intro k r w hd hok ha hst
    have IHA := Lib.hid iha; have IHB := Lib.hid ihb
    clear iha ihb
    have HL : Hid (xs.length = n) := by have := ha.1; rw [rows_len R2.vs_len] at this; unfold Hid; omega
    obtain ⟨hx, hd1, hk⟩ := drop_cons_at (show xs.drop k = ⟨5, 0⟩ :: (a.enc ++ (b.enc ++ r)) from by rw [hd]; simp [E.enc])
    have hkn : k < n := by have := HL.out; omega
    have HD1 := Lib.hid hd1
    obtain ⟨bb, o, rfl, hs⟩ := ha.sl hkn
    obtain ⟨p0, p1⟩ := hs.rec2 hx
    dsimp only at p0 p1
    have HX := Lib.hid hx
    have HS := Lib.hid hs
    have HA := Lib.hid ha
    have HST := Lib.hid hst
    have hfol : ((eFol ⟨5, 0⟩ : Nat) : Int) = 2 := by first | rfl | (simp [eFol])
    obtain ⟨hoka, hokb⟩ := hok
    have hlen : (E.same a b).len = 1 + a.len + b.len := by simp [E.len, E.enc]; omega
    have hd2 := drop_enc hd1
    have hla : 1 + k + a.len + b.len ≤ n := by
      have := congrArg List.length hd1
      rw [List.length_drop, List.length_append, List.length_append, HL.out] at this
      unfold E.len; omega
    obtain ⟨l1, hl1⟩ : ∃ l, a.len = l := ⟨_, rfl⟩
    obtain ⟨l2, hl2⟩ : ∃ l, b.len = l := ⟨_, rfl⟩
    have HL1 := Lib.hid hl1; have HL2 := Lib.hid hl2
    rw [hl1, hl2] at hla
    rw [hl1] at hd2
    have HD2 := Lib.hid hd2
    have HNA : Hid (a.val σ = none → ∀ W, Below w.heap.size w W → EvPost ((E.same a b).val σ) (k + (E.same a b).len) w (.panicked fullP) W) := fun h W hb => EvPost.no (by simp only [E.val]; rw [h]; rfl) hb
    have HNB : Hid (∀ t, a.val σ = some t → b.val σ = none → ∀ W, Below w.heap.size w W → EvPost ((E.same a b).val σ) (k + (E.same a b).len) w (.panicked fullP) W) := fun t h0 h W hb => EvPost.no (by simp only [E.val]; rw [h0, h]; rfl) hb
    have HYES : Hid (∀ t u q W, a.val σ = some t → b.val σ = some u → Tr W.heap.size W (sameT t u) q → Below w.heap.size w W → EvPost ((E.same a b).val σ) (k + (E.same a b).len) w (.returned (.tuple #[.pointer q, .int .i64 (k + 1 + l1 + l2 : Nat)])) W) := by
      intro t u q W h1 h2 h3 h5
      rw [show k + (E.same a b).len = k + 1 + l1 + l2 by rw [hlen, hl1, hl2]; omega]
      exact EvPost.yes (by simp only [E.val]; rw [h1, h2, Option.bind_some, Option.map_some]) h3 h5
    clear hx hd hd1 hst ha hs hl1 hl2 hlen hd2
    go_enter Try.func35, Try.ntmps35
    go_wp2_with fail
    refine (exprFollow_any ⟨5, 0⟩ _).mono ?_
    rintro e w1 ⟨rfl, b1⟩
    rw [hfol]
    have HB1 := Lib.hid b1
    obtain ⟨q0, q1⟩ := (HS.out.below' b1).rec2 HX.out
    dsimp only at q0 q1
    clear hfol b1 p0 p1
    go_wp2_with fail
    refine (IHA.out (k + 1) (b.enc ++ r) w1 HD1.out hoka (HA.out.below HB1.out) (HST.out.step HB1.out)).mono ?_
    rintro e w2 ⟨b2, (⟨t, p, hv, rfl, ht⟩ | ⟨hv, rfl⟩)⟩
    rotate_left
    · have FIN := Lib.hid (HNA.out hv _ (below_step HB1.out b2))
      clear b2 hv
      go_wp2_with fail
      exact bodyPost_panic rfl FIN.out
    have HB2 := Lib.hid (below_step HB1.out b2)
    rw [HL1.out]
    have HT := Lib.hid ht
    have HV := Lib.hid hv
    clear b2 ht hv
    go_wp2_with fail
    refine (IHB.out (k + 1 + l1) r w2 HD2.out hokb (HA.out.below HB2.out) (HST.out.step HB2.out)).mono ?_
    rintro e w3 ⟨b3, (⟨u, p3, hu, rfl, htu⟩ | ⟨hu, rfl⟩)⟩
    rotate_left
    · have FIN := Lib.hid (HNB.out t HV.out hu _ (below_step HB2.out b3))
      clear b3 hu
      go_wp2_with fail
      exact bodyPost_panic rfl FIN.out
    have HB3 := Lib.hid (below_step HB2.out b3)
    rw [HL2.out]
    have HVU := Lib.hid hu
    have HTU := Lib.hid htu
    have HT3 := Lib.hid (HT.out.step b3)
    obtain ⟨q0, q1⟩ := (HS.out.below' HB3.out).rec2 HX.out
    dsimp only at q0 q1
    have HEQ := Lib.hid (equal_any _ t u p p3 w3 HT3.out HTU.out)
    cases hsm : T.same t u with
    | false =>
      rw [hsm] at HEQ
      have HSM : Hid (sameT t u = T.nil) := by unfold Hid sameT; rw [hsm]; rfl
      clear b3 hu htu hsm
      go_wp2_with fail
      refine HEQ.out.mono ?_
      rintro e w4 ⟨rfl, nq, rfl⟩
      have FIN := Lib.hid (HYES.out t u none (w3.drewN nq) HV.out HVU.out (by rw [HSM.out]; rfl) (below_drewN HB3.out nq))
      go_wp2_with fail
      go_ret2
      exact FIN.out
    | true =>
      rw [hsm] at HEQ
      have HSM : Hid (sameT t u = T.pair .nil .nil) := by unfold Hid sameT; rw [hsm]; rfl
      clear b3 hu htu hsm
      go_wp2_with fail
      refine HEQ.out.mono ?_
      rintro e w4 ⟨rfl, nq, rfl⟩
      have HBQ := Lib.hid (below_drewN HB3.out nq)
      obtain ⟨q0, q1⟩ := (HS.out.below' HBQ.out).rec2 HX.out
      dsimp only at q0 q1
      generalize w3.drewN nq = w5 at HBQ q0 q1 ⊢
      go_wp2_with fail
      refine (pair_any T.nil T.nil none none w5 rfl rfl (by simp [T.nodes])).mono ?_
      rintro e w6 ⟨p6, rfl, ht6, b6⟩
      have FIN := Lib.hid (HYES.out t u p6 w6 HV.out HVU.out (by rw [HSM.out]; exact ht6) (below_step HBQ.out b6))
      clear b6 ht6
      go_wp2_with fail
      go_ret2
      exact FIN.out
end Go.Proofs.Ytgcedfpjgdeakaa
