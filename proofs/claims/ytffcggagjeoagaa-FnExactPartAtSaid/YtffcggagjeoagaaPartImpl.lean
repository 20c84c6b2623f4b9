/- PartAt of the program: replaced, pathCode, PartAt. -/
import Derived.Test.YtffcggagjeoagaaPartTree
import Derived.Deep.RegionHeld3
namespace Go.Proofs.Ytffcggagjeoagaa
open Go.RowKit
set_option linter.all false

/-- The cell of a variable that holds a tree. -/
def Box (w : World) (g : Nat) (q : Option Addr) : Prop := w.heap[g]? = some (.cells #[.pointer q] 71 (0, 0))
/-- What replaced leaves: the tree as it was, or none, and the part in the variable. -/
def RepOut (x : T) (ds : List Int) (w w' : World) (gp : Nat) (e : Ending) : Prop :=
  (∃ (p : Option Addr) (x' : T), e = .returned (.tuple #[.pointer p, .bool false]) ∧ x.part ds = none ∧ Tr w'.heap.size w' x' p ∧ x'.nodes ≤ x.nodes ∧ ∃ q, Box w' gp q) ∨
  (∃ (p : Option Addr) (y : T) (q : Option Addr), e = .returned (.tuple #[.pointer p, .bool true]) ∧ x.part ds = some y ∧ Tr w'.heap.size w' x p ∧ Box w' gp q ∧ Tr w'.heap.size w' y q)

theorem partSet_any (gp : Nat) (p q : Option Addr) (w : World) (hb : Box w gp q) :
    Calls Try.prog 67 #[.pointer p, .pointer (some ⟨gp, 0, none⟩)] w fun e w' => e = .returned (.pointer p) ∧ w.setCell ⟨gp, 0, none⟩ (.pointer p) = w' := by
  obtain ⟨c0, f0, _⟩ := var_facts hb
  clear hb
  go_enter Try.func67, Try.ntmps67
  go_wp2
  go_ret
  exact ⟨rfl, rfl⟩

theorem Tr.grow {w w' : World} {gp : Nat} {q : Option Addr} (hg : w.grownBy w' (some gp)) (hb : Box w gp q) {x : T} {p : Option Addr} (h : Tr w.heap.size w x p) : Tr w'.heap.size w' x p :=
  (h.grown hg hb (by decide)).mono hg.size

set_option maxRecDepth 100000 in
set_option maxHeartbeats 1000000 in
theorem replaced_any (gp : Nat) (ds : List Int) : ∀ (x : T) (p : Option Addr) (A : Option Addr) (n c : Nat) (q : Option Addr) (w : World), Tr w.heap.size w x p → Arg w A n (ds.map (.int .i64)) → n ≤ c → n ≤ 1048576 → (∀ d ∈ ds, d = 0 ∨ d = 1) → Box w gp q → x.nodes ≤ 4194304 → (∀ b off, A = some ⟨b, off, none⟩ → b ≠ gp) →
    Calls Try.prog 66 #[.pointer p, .slice A n c, .func (.func 67) #[] #[.pointer (some ⟨gp, 0, none⟩)]] w fun e w' => RepOut x ds w w' gp e ∧ w.grownBy w' (some gp) := by
  have HE := Lib.hid (fun args W => enters_of' (P := Try.prog) Try.func67 (by kernel_rfl) rfl args W)
  induction ds with
  | nil =>
    intro x p A n c q w ht ha hc hn hds hb hnod hA
    have hn0 : n = 0 := by have := ha.1; simpa using this.symm
    subst hn0
    have hE := HE.out
    have HB := Lib.hid hb
    go_enter Try.func66, Try.ntmps66
    go_wp2_with fail
    refine (partSet_any gp p q w HB.out).mono ?_
    rintro e w1 ⟨rfl, hw⟩
    have hg : w.grownBy w1 (some gp) := by rw [← hw]; exact grown_setCell (World.grownBy.refl _ _) _ _
    have hb1 : Box w1 gp p := by rw [← hw]; exact heap_set HB.out _
    have ht1 := ht.grow hg HB.out
    have HB1 := Lib.hid hb1
    clear hw hE hb1
    go_wp2
    go_ret2
    refine ⟨.inr ⟨p, x, p, rfl, ?_, ht1, HB1.out, ht1⟩, hg⟩
    cases x <;> simp [T.part]
  | cons d ds ih =>
    intro x p A n c q w ht ha hc hn hds hb hnod hA
    have IH := Lib.hid ih; clear ih
    have hnl : n = ds.length + 1 := by have := ha.1; simp at this; omega
    have HB := Lib.hid hb
    have hn1 : ((n : Int) == 0) = false := by simp; omega
    have hn1' : 1 ≤ n := by omega
    have HNL := Lib.hid hnl; clear hnl
    cases x with
    | nil =>
      have hp : p = none := ht
      subst hp
      have hq := Lib.hid (show ∃ q, Box w gp q from ⟨q, HB.out⟩)
      go_enter Try.func66, Try.ntmps66
      go_wp2
      go_ret2
      exact ⟨.inl ⟨none, .nil, rfl, by simp [T.part], rfl, Nat.le_refl _, hq.out⟩, World.grownBy.refl _ _⟩
    | pair a e =>
      obtain ⟨g, pa, pe, rfl, hg, hh, hta, hte⟩ := ht
      have hN : (T.pair a e).nodes = 1 + a.nodes + e.nodes := rfl
      have hna := a.nodes_pos
      have hne := e.nodes_pos
      rw [hN] at hnod
      obtain ⟨b, off, rfl, hs⟩ := ha.sl (k := 0) (by omega)
      have hbg := hA b off rfl
      have hca := hs.at (j := 0) (u := .int .i64 d) rfl
      simp only [Nat.add_zero] at hca
      have c0 : w.cell? ⟨g, 0, none⟩ = some (.pointer pa) := by rw [cell_of_heap hh]; rfl
      have c1 : w.cell? ⟨g, 1, none⟩ = some (.pointer pe) := by rw [cell_of_heap hh]; rfl
      have hds2 : ∀ y ∈ ds, y = 0 ∨ y = 1 := fun y hy => hds y (List.mem_cons_of_mem _ hy)
      have HH := Lib.hid hh
      have hd01 := hds d (by simp)
      have hgne : g ≠ gp := fun e => heap_ne hh HB.out (by decide) e
      have HTA := Lib.hid hta; have HTE := Lib.hid hte
      have HDS2 := Lib.hid hds2
      clear hds hds2 hb hh ha
      by_cases hck : c = 1
      · have hn01 : n = 1 := by omega
        subst hck
        subst hn01
        have hdsn : ds.length = 0 := by have := HNL.out; omega
        have hs2 : Arg w.drew (some ⟨b, off, none⟩) 0 (ds.map (.int .i64)) := ⟨by rw [List.length_map]; exact hdsn, .inl rfl⟩
        clear hdsn
        have HIH : ∀ (y : T) (py : Option Addr), Tr w.drew.heap.size w.drew y py → y.nodes ≤ 4194304 → Calls Try.prog 66 #[.pointer py, .slice (some ⟨b, off, none⟩) 0 0, .func (.func 67) #[] #[.pointer (some ⟨gp, 0, none⟩)]] w.drew fun z w' => RepOut y ds w.drew w' gp z ∧ w.drew.grownBy w' (some gp) :=
          fun y py hy hny => IH.out y py (some ⟨b, off, none⟩) 0 0 q w.drew hy hs2 (by omega) (by omega) HDS2.out HB.out (by omega) (fun b2 off2 e2 => by injection e2 with e2; injection e2 with e3; subst e3; exact hbg)
        clear hn1'
        clear IH hs2 HDS2 HNL
        rcases hd01 with rfl | rfl
        · have hih := HIH a pa HTA.out.drew (by omega)
          clear HIH
          cases hpt : a.part ds with
          | none =>
            have hN1 : Hid (Calls Try.prog 66 #[.pointer pa, .slice (some ⟨b, off, none⟩) 0 0, .func (.func 67) #[] #[.pointer (some ⟨gp, 0, none⟩)]] w.drew fun z w' => (∃ (p : Option Addr) (x' : T), z = .returned (.tuple #[.pointer p, .bool false]) ∧ Tr w'.heap.size w' x' p ∧ x'.nodes ≤ a.nodes ∧ Hid (∃ q, Box w' gp q)) ∧ w.drew.grownBy w' (some gp)) := by
              refine hih.mono fun z w' h => ⟨?_, h.2⟩
              rcases h.1 with ⟨p1, x', h1, _, h3, h4, h5⟩ | ⟨_, y, _, _, h2, _⟩
              · exact ⟨p1, x', h1, h3, h4, h5⟩
              · rw [hpt] at h2; cases h2
            have HPN : Hid ((T.pair a e).part (0 :: ds) = none) := by unfold Hid; rw [part_pair, if_pos rfl]; exact hpt
            clear hih hpt
            go_enter Try.func66, Try.ntmps66
            go_wp2_with fail
            go_region_held3 (fun w' => w'.cell? ⟨g, 0, none⟩ = some (.pointer pa)) (first | go_keep | exact k1)
              ((first
                | (go_at_call 66; refine hN1.out.mono ?_; rintro z w1 ⟨⟨p1, x', rfl, ht1, hle, hbox⟩, hgr⟩; have k1 : w1.cell? ⟨g, 0, none⟩ = some (.pointer pa) := (by rw [cell_of_heap (grown_keep hgr HH.out (by intro e; injection e with e; exact hgne e))]; rfl))))
            all_goals
              have hgr2 : w.grownBy w1 (some gp) := ⟨hgr.os, hgr.tape, hgr.output, hgr.size, hgr.block⟩
              have hoth := HTE.out.grow hgr2 HB.out
              have k2 : w1.cell? ⟨g, 1, none⟩ = some (.pointer pe) := by
                rw [cell_of_heap (grown_keep hgr2 HH.out (by intro e; injection e with e; exact hgne e))]; rfl
              clear hca c0 c1 hgr k1 hN1
              go_wp2_with fail
              refine (pair_any x' e p1 pe w1 ht1 hoth (by omega)).mono ?_
              rintro z w2 ⟨p2, rfl, ht2, hb2⟩
              go_wp2_with fail
              go_ret2
              refine ⟨.inl ⟨p2, .pair x' e, rfl, HPN.out, ht2, by simp only [T.nodes]; omega, ?_⟩, hgr2.trans (grown_of_below hb2 _)⟩
              obtain ⟨q2, hq2⟩ := hbox.out
              exact ⟨q2, (hb2.block gp (heap_lt hq2)).trans hq2⟩
          | some y =>
            have hN1 : Hid (Calls Try.prog 66 #[.pointer pa, .slice (some ⟨b, off, none⟩) 0 0, .func (.func 67) #[] #[.pointer (some ⟨gp, 0, none⟩)]] w.drew fun z w' => (∃ (p : Option Addr) (q : Option Addr), z = .returned (.tuple #[.pointer p, .bool true]) ∧ Tr w'.heap.size w' a p ∧ Hid (Box w' gp q) ∧ Hid (Tr w'.heap.size w' y q)) ∧ w.drew.grownBy w' (some gp)) := by
              refine hih.mono fun z w' h => ⟨?_, h.2⟩
              rcases h.1 with ⟨_, _, _, h2, _⟩ | ⟨p1, y2, q1, h1, h2, h3, h4, h5⟩
              · rw [hpt] at h2; cases h2
              · rw [hpt] at h2; injection h2 with h2; subst h2; exact ⟨p1, q1, h1, h3, h4, h5⟩
            have HPN : Hid ((T.pair a e).part (0 :: ds) = some y) := by unfold Hid; rw [part_pair, if_pos rfl]; exact hpt
            clear hih hpt
            go_enter Try.func66, Try.ntmps66
            go_wp2_with fail
            go_region_held3 (fun w' => w'.cell? ⟨g, 0, none⟩ = some (.pointer pa)) (first | go_keep | exact k1)
              ((first
                | (go_at_call 66; refine hN1.out.mono ?_; rintro z w1 ⟨⟨p1, q1, rfl, ht1, hbox, hty⟩, hgr⟩; have k1 : w1.cell? ⟨g, 0, none⟩ = some (.pointer pa) := (by rw [cell_of_heap (grown_keep hgr HH.out (by intro e; injection e with e; exact hgne e))]; rfl))))
            all_goals
              have hgr2 : w.grownBy w1 (some gp) := ⟨hgr.os, hgr.tape, hgr.output, hgr.size, hgr.block⟩
              have hoth := HTE.out.grow hgr2 HB.out
              have k2 : w1.cell? ⟨g, 1, none⟩ = some (.pointer pe) := by
                rw [cell_of_heap (grown_keep hgr2 HH.out (by intro e; injection e with e; exact hgne e))]; rfl
              clear hca c0 c1 hgr k1 hN1
              go_wp2_with fail
              refine (pair_any a e p1 pe w1 ht1 hoth (by omega)).mono ?_
              rintro z w2 ⟨p2, rfl, ht2, hb2⟩
              go_wp2_with fail
              go_ret2
              exact ⟨.inr ⟨p2, y, q1, rfl, HPN.out, ht2, (hb2.block gp (heap_lt hbox.out)).trans hbox.out, hty.out.step hb2⟩, hgr2.trans (grown_of_below hb2 _)⟩
        · have hih := HIH e pe HTE.out.drew (by omega)
          clear HIH
          cases hpt : e.part ds with
          | none =>
            have hN1 : Hid (Calls Try.prog 66 #[.pointer pe, .slice (some ⟨b, off, none⟩) 0 0, .func (.func 67) #[] #[.pointer (some ⟨gp, 0, none⟩)]] w.drew fun z w' => (∃ (p : Option Addr) (x' : T), z = .returned (.tuple #[.pointer p, .bool false]) ∧ Tr w'.heap.size w' x' p ∧ x'.nodes ≤ e.nodes ∧ Hid (∃ q, Box w' gp q)) ∧ w.drew.grownBy w' (some gp)) := by
              refine hih.mono fun z w' h => ⟨?_, h.2⟩
              rcases h.1 with ⟨p1, x', h1, _, h3, h4, h5⟩ | ⟨_, y, _, _, h2, _⟩
              · exact ⟨p1, x', h1, h3, h4, h5⟩
              · rw [hpt] at h2; cases h2
            have HPN : Hid ((T.pair a e).part (1 :: ds) = none) := by unfold Hid; rw [part_pair, if_neg (by decide)]; exact hpt
            clear hih hpt
            go_enter Try.func66, Try.ntmps66
            go_wp2_with fail
            go_region_held3 (fun w' => w'.cell? ⟨g, 1, none⟩ = some (.pointer pe)) (first | go_keep | exact k1)
              ((first
                | (go_at_call 66; refine hN1.out.mono ?_; rintro z w1 ⟨⟨p1, x', rfl, ht1, hle, hbox⟩, hgr⟩; have k1 : w1.cell? ⟨g, 1, none⟩ = some (.pointer pe) := (by rw [cell_of_heap (grown_keep hgr HH.out (by intro e; injection e with e; exact hgne e))]; rfl))))
            all_goals
              have hgr2 : w.grownBy w1 (some gp) := ⟨hgr.os, hgr.tape, hgr.output, hgr.size, hgr.block⟩
              have hoth := HTA.out.grow hgr2 HB.out
              have k2 : w1.cell? ⟨g, 0, none⟩ = some (.pointer pa) := by
                rw [cell_of_heap (grown_keep hgr2 HH.out (by intro e; injection e with e; exact hgne e))]; rfl
              clear hca c0 c1 hgr k1 hN1
              go_wp2_with fail
              refine (pair_any a x' pa p1 w1 hoth ht1 (by omega)).mono ?_
              rintro z w2 ⟨p2, rfl, ht2, hb2⟩
              go_wp2_with fail
              go_ret2
              refine ⟨.inl ⟨p2, .pair a x', rfl, HPN.out, ht2, by simp only [T.nodes]; omega, ?_⟩, hgr2.trans (grown_of_below hb2 _)⟩
              obtain ⟨q2, hq2⟩ := hbox.out
              exact ⟨q2, (hb2.block gp (heap_lt hq2)).trans hq2⟩
          | some y =>
            have hN1 : Hid (Calls Try.prog 66 #[.pointer pe, .slice (some ⟨b, off, none⟩) 0 0, .func (.func 67) #[] #[.pointer (some ⟨gp, 0, none⟩)]] w.drew fun z w' => (∃ (p : Option Addr) (q : Option Addr), z = .returned (.tuple #[.pointer p, .bool true]) ∧ Tr w'.heap.size w' e p ∧ Hid (Box w' gp q) ∧ Hid (Tr w'.heap.size w' y q)) ∧ w.drew.grownBy w' (some gp)) := by
              refine hih.mono fun z w' h => ⟨?_, h.2⟩
              rcases h.1 with ⟨_, _, _, h2, _⟩ | ⟨p1, y2, q1, h1, h2, h3, h4, h5⟩
              · rw [hpt] at h2; cases h2
              · rw [hpt] at h2; injection h2 with h2; subst h2; exact ⟨p1, q1, h1, h3, h4, h5⟩
            have HPN : Hid ((T.pair a e).part (1 :: ds) = some y) := by unfold Hid; rw [part_pair, if_neg (by decide)]; exact hpt
            clear hih hpt
            go_enter Try.func66, Try.ntmps66
            go_wp2_with fail
            go_region_held3 (fun w' => w'.cell? ⟨g, 1, none⟩ = some (.pointer pe)) (first | go_keep | exact k1)
              ((first
                | (go_at_call 66; refine hN1.out.mono ?_; rintro z w1 ⟨⟨p1, q1, rfl, ht1, hbox, hty⟩, hgr⟩; have k1 : w1.cell? ⟨g, 1, none⟩ = some (.pointer pe) := (by rw [cell_of_heap (grown_keep hgr HH.out (by intro e; injection e with e; exact hgne e))]; rfl))))
            all_goals
              have hgr2 : w.grownBy w1 (some gp) := ⟨hgr.os, hgr.tape, hgr.output, hgr.size, hgr.block⟩
              have hoth := HTA.out.grow hgr2 HB.out
              have k2 : w1.cell? ⟨g, 0, none⟩ = some (.pointer pa) := by
                rw [cell_of_heap (grown_keep hgr2 HH.out (by intro e; injection e with e; exact hgne e))]; rfl
              clear hca c0 c1 hgr k1 hN1
              go_wp2_with fail
              refine (pair_any a e pa p1 w1 hoth ht1 (by omega)).mono ?_
              rintro z w2 ⟨p2, rfl, ht2, hb2⟩
              go_wp2_with fail
              go_ret2
              exact ⟨.inr ⟨p2, y, q1, rfl, HPN.out, ht2, (hb2.block gp (heap_lt hbox.out)).trans hbox.out, hty.out.step hb2⟩, hgr2.trans (grown_of_below hb2 _)⟩
      · have hs2 : Arg w.drew (some ⟨b, off + 1, none⟩) (n - 1) (ds.map (.int .i64)) := by
          refine ⟨by rw [List.length_map]; have := HNL.out; omega, .inr ⟨b, off + 1, rfl, hs.1, fun j u hu => ?_⟩⟩
          have := hs.at (j := 1 + j) (u := u) (by rw [Nat.add_comm]; simpa using hu)
          show w.cell? _ = _
          rw [show off + 1 + j = off + (1 + j) by omega]
          exact this
        have HIH : ∀ (y : T) (py : Option Addr), Tr w.drew.heap.size w.drew y py → y.nodes ≤ 4194304 → Calls Try.prog 66 #[.pointer py, .slice (some ⟨b, off + 1, none⟩) (n - 1) (c - 1), .func (.func 67) #[] #[.pointer (some ⟨gp, 0, none⟩)]] w.drew fun z w' => RepOut y ds w.drew w' gp z ∧ w.drew.grownBy w' (some gp) :=
          fun y py hy hny => IH.out y py (some ⟨b, off + 1, none⟩) (n - 1) (c - 1) q w.drew hy hs2 (by omega) (by omega) HDS2.out HB.out (by omega) (fun b2 off2 e2 => by injection e2 with e2; injection e2 with e3; subst e3; exact hbg)
        have i1 : (1 : Int) ≤ (n : Int) := by omega
        have i2 : (1 : Int) ≤ (c : Int) := by omega
        have i3 : (0 : Int) < (n : Int) := by omega
        clear IH hs2 HDS2 HNL
        rcases hd01 with rfl | rfl
        · have hih := HIH a pa HTA.out.drew (by omega)
          clear HIH
          cases hpt : a.part ds with
          | none =>
            have hN1 : Hid (Calls Try.prog 66 #[.pointer pa, .slice (some ⟨b, off + 1, none⟩) (n - 1) (c - 1), .func (.func 67) #[] #[.pointer (some ⟨gp, 0, none⟩)]] w.drew fun z w' => (∃ (p : Option Addr) (x' : T), z = .returned (.tuple #[.pointer p, .bool false]) ∧ Tr w'.heap.size w' x' p ∧ x'.nodes ≤ a.nodes ∧ Hid (∃ q, Box w' gp q)) ∧ w.drew.grownBy w' (some gp)) := by
              refine hih.mono fun z w' h => ⟨?_, h.2⟩
              rcases h.1 with ⟨p1, x', h1, _, h3, h4, h5⟩ | ⟨_, y, _, _, h2, _⟩
              · exact ⟨p1, x', h1, h3, h4, h5⟩
              · rw [hpt] at h2; cases h2
            have HPN : Hid ((T.pair a e).part (0 :: ds) = none) := by unfold Hid; rw [part_pair, if_pos rfl]; exact hpt
            clear hih hpt
            go_enter Try.func66, Try.ntmps66
            go_wp2_with fail
            go_region_held3 (fun w' => w'.cell? ⟨g, 0, none⟩ = some (.pointer pa)) (first | go_keep | exact k1)
              ((first
                | (go_at_call 66; refine hN1.out.mono ?_; rintro z w1 ⟨⟨p1, x', rfl, ht1, hle, hbox⟩, hgr⟩; have k1 : w1.cell? ⟨g, 0, none⟩ = some (.pointer pa) := (by rw [cell_of_heap (grown_keep hgr HH.out (by intro e; injection e with e; exact hgne e))]; rfl))))
            all_goals
              have hgr2 : w.grownBy w1 (some gp) := ⟨hgr.os, hgr.tape, hgr.output, hgr.size, hgr.block⟩
              have hoth := HTE.out.grow hgr2 HB.out
              have k2 : w1.cell? ⟨g, 1, none⟩ = some (.pointer pe) := by
                rw [cell_of_heap (grown_keep hgr2 HH.out (by intro e; injection e with e; exact hgne e))]; rfl
              clear hca c0 c1 hgr k1 hN1
              go_wp2_with fail
              refine (pair_any x' e p1 pe w1 ht1 hoth (by omega)).mono ?_
              rintro z w2 ⟨p2, rfl, ht2, hb2⟩
              go_wp2_with fail
              go_ret2
              refine ⟨.inl ⟨p2, .pair x' e, rfl, HPN.out, ht2, by simp only [T.nodes]; omega, ?_⟩, hgr2.trans (grown_of_below hb2 _)⟩
              obtain ⟨q2, hq2⟩ := hbox.out
              exact ⟨q2, (hb2.block gp (heap_lt hq2)).trans hq2⟩
          | some y =>
            have hN1 : Hid (Calls Try.prog 66 #[.pointer pa, .slice (some ⟨b, off + 1, none⟩) (n - 1) (c - 1), .func (.func 67) #[] #[.pointer (some ⟨gp, 0, none⟩)]] w.drew fun z w' => (∃ (p : Option Addr) (q : Option Addr), z = .returned (.tuple #[.pointer p, .bool true]) ∧ Tr w'.heap.size w' a p ∧ Hid (Box w' gp q) ∧ Hid (Tr w'.heap.size w' y q)) ∧ w.drew.grownBy w' (some gp)) := by
              refine hih.mono fun z w' h => ⟨?_, h.2⟩
              rcases h.1 with ⟨_, _, _, h2, _⟩ | ⟨p1, y2, q1, h1, h2, h3, h4, h5⟩
              · rw [hpt] at h2; cases h2
              · rw [hpt] at h2; injection h2 with h2; subst h2; exact ⟨p1, q1, h1, h3, h4, h5⟩
            have HPN : Hid ((T.pair a e).part (0 :: ds) = some y) := by unfold Hid; rw [part_pair, if_pos rfl]; exact hpt
            clear hih hpt
            go_enter Try.func66, Try.ntmps66
            go_wp2_with fail
            go_region_held3 (fun w' => w'.cell? ⟨g, 0, none⟩ = some (.pointer pa)) (first | go_keep | exact k1)
              ((first
                | (go_at_call 66; refine hN1.out.mono ?_; rintro z w1 ⟨⟨p1, q1, rfl, ht1, hbox, hty⟩, hgr⟩; have k1 : w1.cell? ⟨g, 0, none⟩ = some (.pointer pa) := (by rw [cell_of_heap (grown_keep hgr HH.out (by intro e; injection e with e; exact hgne e))]; rfl))))
            all_goals
              have hgr2 : w.grownBy w1 (some gp) := ⟨hgr.os, hgr.tape, hgr.output, hgr.size, hgr.block⟩
              have hoth := HTE.out.grow hgr2 HB.out
              have k2 : w1.cell? ⟨g, 1, none⟩ = some (.pointer pe) := by
                rw [cell_of_heap (grown_keep hgr2 HH.out (by intro e; injection e with e; exact hgne e))]; rfl
              clear hca c0 c1 hgr k1 hN1
              go_wp2_with fail
              refine (pair_any a e p1 pe w1 ht1 hoth (by omega)).mono ?_
              rintro z w2 ⟨p2, rfl, ht2, hb2⟩
              go_wp2_with fail
              go_ret2
              exact ⟨.inr ⟨p2, y, q1, rfl, HPN.out, ht2, (hb2.block gp (heap_lt hbox.out)).trans hbox.out, hty.out.step hb2⟩, hgr2.trans (grown_of_below hb2 _)⟩
        · have hih := HIH e pe HTE.out.drew (by omega)
          clear HIH
          cases hpt : e.part ds with
          | none =>
            have hN1 : Hid (Calls Try.prog 66 #[.pointer pe, .slice (some ⟨b, off + 1, none⟩) (n - 1) (c - 1), .func (.func 67) #[] #[.pointer (some ⟨gp, 0, none⟩)]] w.drew fun z w' => (∃ (p : Option Addr) (x' : T), z = .returned (.tuple #[.pointer p, .bool false]) ∧ Tr w'.heap.size w' x' p ∧ x'.nodes ≤ e.nodes ∧ Hid (∃ q, Box w' gp q)) ∧ w.drew.grownBy w' (some gp)) := by
              refine hih.mono fun z w' h => ⟨?_, h.2⟩
              rcases h.1 with ⟨p1, x', h1, _, h3, h4, h5⟩ | ⟨_, y, _, _, h2, _⟩
              · exact ⟨p1, x', h1, h3, h4, h5⟩
              · rw [hpt] at h2; cases h2
            have HPN : Hid ((T.pair a e).part (1 :: ds) = none) := by unfold Hid; rw [part_pair, if_neg (by decide)]; exact hpt
            clear hih hpt
            go_enter Try.func66, Try.ntmps66
            go_wp2_with fail
            go_region_held3 (fun w' => w'.cell? ⟨g, 1, none⟩ = some (.pointer pe)) (first | go_keep | exact k1)
              ((first
                | (go_at_call 66; refine hN1.out.mono ?_; rintro z w1 ⟨⟨p1, x', rfl, ht1, hle, hbox⟩, hgr⟩; have k1 : w1.cell? ⟨g, 1, none⟩ = some (.pointer pe) := (by rw [cell_of_heap (grown_keep hgr HH.out (by intro e; injection e with e; exact hgne e))]; rfl))))
            all_goals
              have hgr2 : w.grownBy w1 (some gp) := ⟨hgr.os, hgr.tape, hgr.output, hgr.size, hgr.block⟩
              have hoth := HTA.out.grow hgr2 HB.out
              have k2 : w1.cell? ⟨g, 0, none⟩ = some (.pointer pa) := by
                rw [cell_of_heap (grown_keep hgr2 HH.out (by intro e; injection e with e; exact hgne e))]; rfl
              clear hca c0 c1 hgr k1 hN1
              go_wp2_with fail
              refine (pair_any a x' pa p1 w1 hoth ht1 (by omega)).mono ?_
              rintro z w2 ⟨p2, rfl, ht2, hb2⟩
              go_wp2_with fail
              go_ret2
              refine ⟨.inl ⟨p2, .pair a x', rfl, HPN.out, ht2, by simp only [T.nodes]; omega, ?_⟩, hgr2.trans (grown_of_below hb2 _)⟩
              obtain ⟨q2, hq2⟩ := hbox.out
              exact ⟨q2, (hb2.block gp (heap_lt hq2)).trans hq2⟩
          | some y =>
            have hN1 : Hid (Calls Try.prog 66 #[.pointer pe, .slice (some ⟨b, off + 1, none⟩) (n - 1) (c - 1), .func (.func 67) #[] #[.pointer (some ⟨gp, 0, none⟩)]] w.drew fun z w' => (∃ (p : Option Addr) (q : Option Addr), z = .returned (.tuple #[.pointer p, .bool true]) ∧ Tr w'.heap.size w' e p ∧ Hid (Box w' gp q) ∧ Hid (Tr w'.heap.size w' y q)) ∧ w.drew.grownBy w' (some gp)) := by
              refine hih.mono fun z w' h => ⟨?_, h.2⟩
              rcases h.1 with ⟨_, _, _, h2, _⟩ | ⟨p1, y2, q1, h1, h2, h3, h4, h5⟩
              · rw [hpt] at h2; cases h2
              · rw [hpt] at h2; injection h2 with h2; subst h2; exact ⟨p1, q1, h1, h3, h4, h5⟩
            have HPN : Hid ((T.pair a e).part (1 :: ds) = some y) := by unfold Hid; rw [part_pair, if_neg (by decide)]; exact hpt
            clear hih hpt
            go_enter Try.func66, Try.ntmps66
            go_wp2_with fail
            go_region_held3 (fun w' => w'.cell? ⟨g, 1, none⟩ = some (.pointer pe)) (first | go_keep | exact k1)
              ((first
                | (go_at_call 66; refine hN1.out.mono ?_; rintro z w1 ⟨⟨p1, q1, rfl, ht1, hbox, hty⟩, hgr⟩; have k1 : w1.cell? ⟨g, 1, none⟩ = some (.pointer pe) := (by rw [cell_of_heap (grown_keep hgr HH.out (by intro e; injection e with e; exact hgne e))]; rfl))))
            all_goals
              have hgr2 : w.grownBy w1 (some gp) := ⟨hgr.os, hgr.tape, hgr.output, hgr.size, hgr.block⟩
              have hoth := HTA.out.grow hgr2 HB.out
              have k2 : w1.cell? ⟨g, 0, none⟩ = some (.pointer pa) := by
                rw [cell_of_heap (grown_keep hgr2 HH.out (by intro e; injection e with e; exact hgne e))]; rfl
              clear hca c0 c1 hgr k1 hN1
              go_wp2_with fail
              refine (pair_any a e pa p1 w1 hoth ht1 (by omega)).mono ?_
              rintro z w2 ⟨p2, rfl, ht2, hb2⟩
              go_wp2_with fail
              go_ret2
              exact ⟨.inr ⟨p2, y, q1, rfl, HPN.out, ht2, (hb2.block gp (heap_lt hbox.out)).trans hbox.out, hty.out.step hb2⟩, hgr2.trans (grown_of_below hb2 _)⟩
end Go.Proofs.Ytffcggagjeoagaa
