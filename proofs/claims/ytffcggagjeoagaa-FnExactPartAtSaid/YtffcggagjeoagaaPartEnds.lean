/- PartAt of the program: pathCode, PartAt. -/
import Derived.Test.YtffcggagjeoagaaPartImpl
namespace Go.Proofs.Ytffcggagjeoagaa
open Go.RowKit
set_option linter.all false

/-- The code for a tree and a path. -/
def pathCodeOf (t : List Bool) (p : List Int) : Int := if isTreeB t then (if pathOk p then 0 else 2) else 1

theorem allDir_is (b off n c : Nat) (xs : List Int) (v : Bool) (hv : xs.all isDir = v) (w : World) (hs : Sl w b off (xs.map (.int .i64))) (hl : xs.length = n) (hn : n ≤ 4194304) :
    Calls Try.prog 111 #[.slice (some ⟨b, off, none⟩) n c, .int .i64 0, .int .i64 1] w fun e w' => e = .returned (.bool v) ∧ w = w' := by
  have h := allWithin_any b off n c xs 0 1 w hs hl hn
  have e : (xs.all fun x => inB x 0 1) = v := by
    rw [← hv]
    congr 1
    funext d
    rw [isDir_in]
  rw [e] at h
  exact h

set_option maxRecDepth 100000 in
theorem pathCode_is (b1 o1 n1 c1 : Nat) (t : List Bool) (b2 o2 n2 c2 g : Nat) (p : List Int) (r : Int) (hr : pathCodeOf t p = r) (w : World) (hs1 : Sl w b1 o1 (t.map .bool)) (hl1 : t.length = n1) (hn1 : n1 ≤ 1048576) (hs2 : Sl w b2 o2 (p.map (.int .i64))) (hl2 : p.length = n2) (hn2 : n2 ≤ 1048576) (hg : Sl w g 0 [.slice (some ⟨b1, o1, none⟩) n1 c1]) :
    Calls Try.prog 65 #[.slice (some ⟨b2, o2, none⟩) n2 c2, .slice (some ⟨g, 0, none⟩) 1 1] w fun e w' => e = .returned (.int .i64 r) ∧ w = w' := by
  have HL2 := Lib.hid hl2
  have htr : Trs w [.slice (some ⟨b1, o1, none⟩) n1 c1] [t] := by
    refine ⟨rfl, fun j v u h1 h2 => ?_⟩
    match j, h1, h2 with
    | 0, h1, h2 => simp at h1 h2; subst h1; subst h2; exact ⟨b1, o1, c1, by rw [hl1], hs1, by omega⟩
  have HTR := Lib.hid htr
  clear htr hl1 hl2
  rcases Bool.eq_false_or_eq_true (isTreeB t) with h | h
  rotate_left
  · have H1 : Hid ([t].all isTreeB = false) := by unfold Hid; simp [h]
    have HR : Hid (r = 1) := by unfold Hid; rw [← hr]; unfold pathCodeOf; rw [h]; rfl
    clear h hr
    go_enter Try.func65, Try.ntmps65
    go_wp2_with fail
    refine (areTrees_is g 0 1 1 _ [t] false H1.out _ hg HTR.out rfl (by omega)).mono ?_
    rintro e w' ⟨rfl, rfl⟩
    go_wp2_with fail
    go_ret
    exact ⟨ret_int HR.out.symm, rfl⟩
  have H1 : Hid ([t].all isTreeB = true) := by unfold Hid; simp [h]
  by_cases h100 : n2 ≤ 100
  · have i1 : ¬ (100 : Int) < (n2 : Int) := by omega
    rcases Bool.eq_false_or_eq_true (p.all isDir) with hd | hd
    · have HR : Hid (r = 0) := by unfold Hid; rw [← hr]; unfold pathCodeOf; rw [h, pathOk_eq, hd, HL2.out, decide_eq_true h100]; rfl
      have HD := Lib.hid hd
      clear h hr hd
      go_enter Try.func65, Try.ntmps65
      go_wp2_with fail
      refine (areTrees_is g 0 1 1 _ [t] true H1.out _ hg HTR.out rfl (by omega)).mono ?_
      rintro e w' ⟨rfl, rfl⟩
      go_wp2_with fail
      refine (allDir_is b2 o2 n2 c2 p true HD.out _ hs2 HL2.out (by omega)).mono ?_
      rintro e w' ⟨rfl, rfl⟩
      go_wp2_with fail
      go_ret
      exact ⟨ret_int HR.out.symm, rfl⟩
    · have HR : Hid (r = 2) := by unfold Hid; rw [← hr]; unfold pathCodeOf; rw [h, pathOk_eq, hd, Bool.and_false]; rfl
      have HD := Lib.hid hd
      clear h hr hd
      go_enter Try.func65, Try.ntmps65
      go_wp2_with fail
      refine (areTrees_is g 0 1 1 _ [t] true H1.out _ hg HTR.out rfl (by omega)).mono ?_
      rintro e w' ⟨rfl, rfl⟩
      go_wp2_with fail
      refine (allDir_is b2 o2 n2 c2 p false HD.out _ hs2 HL2.out (by omega)).mono ?_
      rintro e w' ⟨rfl, rfl⟩
      go_wp2_with fail
      go_ret
      exact ⟨ret_int HR.out.symm, rfl⟩
  · have i1 : (100 : Int) < (n2 : Int) := by omega
    have HR : Hid (r = 2) := by unfold Hid; rw [← hr]; unfold pathCodeOf; rw [h, pathOk_eq, HL2.out, decide_eq_false h100]; rfl
    clear h hr h100
    go_enter Try.func65, Try.ntmps65
    go_wp2_with fail
    refine (areTrees_is g 0 1 1 _ [t] true H1.out _ hg HTR.out rfl (by omega)).mono ?_
    rintro e w' ⟨rfl, rfl⟩
    go_wp2_with fail
    go_ret
    exact ⟨ret_int HR.out.symm, rfl⟩

set_option maxRecDepth 100000 in
set_option maxHeartbeats 1000000 in
theorem implPartAt_any (b1 o1 n1 c1 : Nat) (t : List Bool) (b2 o2 n2 c2 : Nat) (p : List Int) (w : World) (hs1 : Sl w b1 o1 (t.map .bool)) (hl1 : t.length = n1) (hn1 : n1 ≤ 1048576) (hc1 : n1 ≤ c1) (hs2 : Sl w b2 o2 (p.map (.int .i64))) (hl2 : p.length = n2) (hn2 : n2 ≤ 1048576) (hc2 : n2 ≤ c2) (hw : Wf64s p) :
    Calls Try.prog 18 #[.slice (some ⟨b1, o1, none⟩) n1 c1, .slice (some ⟨b2, o2, none⟩) n2 c2] w fun e w' => ∃ v, e = .returned (.tuple #[v, .int .i64 (partAt t p).2]) ∧
      w'.ownsRow w.heap.size 4 1 v (partAt t p).1.length ((partAt t p).1.map .bool) ∧ Below w.heap.size w w' := by
  have HL1 := Lib.hid hl1; have HL2 := Lib.hid hl2
  clear hl1 hl2 hw
  have hb0 := laid_below w (.cells #[.slice (some ⟨b1, o1, none⟩) n1 c1] 22)
  have hg0 : Sl (w.alloc (.cells #[.slice (some ⟨b1, o1, none⟩) n1 c1] 22)) w.heap.size 0 [.slice (some ⟨b1, o1, none⟩) n1 c1] := sl_laid w _ _
  have hs1a := hs1.below' hb0
  have hs2a := hs2.below' hb0
  rcases Bool.eq_false_or_eq_true (isTreeB t) with h | h
  rotate_left
  · have HE : Hid (partAt t p = ([], 1)) := by unfold Hid partAt; rw [h]; rfl
    have HC : Hid (pathCodeOf t p = 1) := by unfold Hid pathCodeOf; rw [h]; rfl
    clear h
    go_enter Try.func18, Try.ntmps18
    go_wp2_with fail
    refine (pathCode_is b1 o1 n1 c1 t b2 o2 n2 c2 w.heap.size p 1 HC.out _ hs1a HL1.out hn1 hs2a HL2.out hn2 hg0).mono ?_
    rintro e w' ⟨rfl, rfl⟩
    go_wp2_with fail
    go_ret2
    rw [HE.out]
    exact ⟨_, rfl, World.ownsRow_nil _ _ _ _, hb0⟩
  obtain ⟨h1, x, hx⟩ := (isTree_iff t).1 h
  have H := Lib.hid h; clear h
  subst hx
  have hnn : x.nodes ≤ 2000 := by rw [← T.length_enc]; exact h1
  have HN : Hid (x.nodes = n1) := by have := HL1.out; rw [T.length_enc] at this; exact this
  clear h1
  have HPE := Lib.hid (partAt_enc x p hnn)
  rcases Bool.eq_false_or_eq_true (pathOk p) with hp | hp
  rotate_left
  · have HE : Hid (partAt x.enc p = ([], 2)) := by unfold Hid; rw [HPE.out, hp]; rfl
    have HC : Hid (pathCodeOf x.enc p = 2) := by unfold Hid pathCodeOf; rw [H.out, hp]; rfl
    clear hp
    go_enter Try.func18, Try.ntmps18
    go_wp2_with fail
    refine (pathCode_is b1 o1 n1 c1 x.enc b2 o2 n2 c2 w.heap.size p 2 HC.out _ hs1a HL1.out hn1 hs2a HL2.out hn2 hg0).mono ?_
    rintro e w' ⟨rfl, rfl⟩
    go_wp2_with fail
    go_ret2
    rw [HE.out]
    exact ⟨_, rfl, World.ownsRow_nil _ _ _ _, hb0⟩
  have HC : Hid (pathCodeOf x.enc p = 0) := by unfold Hid pathCodeOf; rw [H.out, hp]; rfl
  obtain ⟨hp100, hpd⟩ := pathOk_facts hp
  have HPO : Hid (partAt x.enc p = partOf x p) := by unfold Hid; rw [HPE.out, hp]; rfl
  have HPD : Hid (∀ d ∈ p, d = 0 ∨ d = 1) := by
    intro d hd
    have := List.all_eq_true.1 hpd d hd
    simpa [isDir] using this
  clear hp hpd hp100
  obtain ⟨w1, HW1, hb1⟩ : ∃ w1, Hid (w1 = w.alloc (.cells #[.slice (some ⟨b1, o1, none⟩) n1 c1] 22)) ∧ Below w.heap.size w w1 := ⟨_, rfl, hb0⟩
  have hs1b := hs1.below' hb1
  have hs2b := hs2.below' hb1
  obtain ⟨w2, HW2, hb2, hbx⟩ : ∃ w2, Hid (w2 = w1.alloc (.cells #[.pointer none] 71)) ∧ Below w1.heap.size w1 w2 ∧ Box w2 w1.heap.size none := ⟨_, rfl, laid_below _ _, heap_alloc_new _ _⟩
  have hB2 := below_step hb1 hb2
  have hs1c := hs1.below' hB2
  have hbsz := hb1.size
  clear hs1a hs2a hb0 hb2 hs1b
  rw [← HW1.out] at hg0
  have hE := Lib.hid (fun args W => enters_of' (P := Try.prog) Try.func67 (by kernel_rfl) rfl args W)
  have HG0 := Lib.hid hg0; clear hg0
  go_enter Try.func18, Try.ntmps18
  go_wp2_with fail
  rw [← HW1.out]
  refine (pathCode_is b1 o1 n1 c1 x.enc b2 o2 n2 c2 w.heap.size p 0 HC.out _ (hs1.below' hb1) HL1.out hn1 hs2b HL2.out hn2 HG0.out).mono ?_
  rintro e w' ⟨rfl, rfl⟩
  clear HW1 HG0 hs2b
  go_wp2_with fail
  rw [← HW2.out]
  refine (treeOf_any b1 o1 n1 c1 x _ hs1c HN.out (by omega)).mono ?_
  rintro e w3 ⟨q, rfl, ht, hb3⟩
  have hB3 := below_step hB2 hb3
  have hbx3 : Box w3 w1.heap.size none := (hb3.block _ (heap_lt hbx)).trans hbx
  have hs2d := hs2.below' hB3
  have hg3 : b2 ≠ w1.heap.size := by have := hs2.1; omega
  have HBX := Lib.hid hbx3
  have harg : Arg w3 (some ⟨b2, o2, none⟩) n2 (p.map (.int .i64)) := Arg.of_sl hs2d (by rw [List.length_map]; exact HL2.out)
  clear hbx hbx3 hb3 HW2 hs1c
  have hrp := replaced_any w1.heap.size p x q (some ⟨b2, o2, none⟩) n2 c2 none w3 ht harg hc2 (by omega) HPD.out HBX.out (by omega) (fun b off e => by injection e with e; injection e with e1; subst e1; exact hg3)
  cases hpt : x.part p with
  | none =>
    have HE : Hid (partAt x.enc p = ([], 3)) := by unfold Hid; rw [HPO.out]; unfold partOf; rw [hpt]
    have HR : Hid (Calls Try.prog 66 #[.pointer q, .slice (some ⟨b2, o2, none⟩) n2 c2, .func (.func 67) #[] #[.pointer (some ⟨w1.heap.size, 0, none⟩)]] w3 fun z w' => (∃ p : Option Addr, z = .returned (.tuple #[.pointer p, .bool false])) ∧ w3.grownBy w' (some w1.heap.size)) := by
      refine hrp.mono fun z w' h => ⟨?_, h.2⟩
      rcases h.1 with ⟨p1, x', h1, _⟩ | ⟨_, y, _, _, h2, _⟩
      · exact ⟨p1, h1⟩
      · rw [hpt] at h2; cases h2
    clear hrp hpt
    go_wp2_with fail
    refine HR.out.mono ?_
    rintro z w4 ⟨⟨p4, rfl⟩, hg4⟩
    have hB4 : Below w.heap.size w w4 := hB3.grown hg4 hB3.size (fun k hk => by injection hk with hk; omega)
    clear HR
    go_wp2_with fail
    go_ret2
    rw [HE.out]
    exact ⟨_, rfl, World.ownsRow_nil _ _ _ _, hB4⟩
  | some y =>
    have hny := part_le p x y hpt
    have HE : Hid (partAt x.enc p = (y.enc, 0)) := by unfold Hid; rw [HPO.out]; unfold partOf; rw [hpt]
    have HR : Hid (Calls Try.prog 66 #[.pointer q, .slice (some ⟨b2, o2, none⟩) n2 c2, .func (.func 67) #[] #[.pointer (some ⟨w1.heap.size, 0, none⟩)]] w3 fun z w' => (∃ (p : Option Addr) (r : Option Addr), z = .returned (.tuple #[.pointer p, .bool true]) ∧ Hid (Box w' w1.heap.size r) ∧ Tr w'.heap.size w' y r) ∧ w3.grownBy w' (some w1.heap.size)) := by
      refine hrp.mono fun z w' h => ⟨?_, h.2⟩
      rcases h.1 with ⟨_, _, _, h2, _⟩ | ⟨p1, y2, q1, h1, h2, h3, h4, h5⟩
      · rw [hpt] at h2; cases h2
      · rw [hpt] at h2; injection h2 with h2; subst h2; exact ⟨p1, q1, h1, h4, h5⟩
    clear hrp hpt
    go_wp2_with fail
    refine HR.out.mono ?_
    rintro z w4 ⟨⟨p4, r4, rfl, hbx4, ht4⟩, hg4⟩
    have hB4 : Below w.heap.size w w4 := hB3.grown hg4 hB3.size (fun k hk => by injection hk with hk; omega)
    obtain ⟨k4, _, _⟩ := var_facts hbx4.out
    clear HR
    go_wp2_with fail
    refine (list_any y r4 w4 ht4 (by omega)).mono ?_
    rintro e w5 ⟨v5, rfl, hown5, hb5⟩
    go_wp2_with fail
    go_ret2
    rw [HE.out]
    exact ⟨_, rfl, by rw [T.length_enc]; exact own_base hown5 hB4.size, below_step hB4 hb5⟩
end Go.Proofs.Ytffcggagjeoagaa
