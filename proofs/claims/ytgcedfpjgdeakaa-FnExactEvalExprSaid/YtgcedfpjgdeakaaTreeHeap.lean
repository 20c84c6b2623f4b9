/- Trees in memory: pair, nodesOf, list, treeOf, depth of the program. -/
import Derived.Test.YtgcedfpjgdeakaaTrees
import Derived.Test.YtgcedfpjgdeakaaHelpBool
import Derived.StillTailTactics
namespace Go.Proofs.Ytgcedfpjgdeakaa
open Go.RowKit
set_option linter.all false

/-- The pointer p leads to the tree x; all its blocks lie below B. -/
def Tr (B : Nat) (w : World) : T → Option Addr → Prop
  | .nil, p => p = none
  | .pair a b, p => ∃ g pa pb, p = some ⟨g, 0, none⟩ ∧ g < B ∧ w.heap[g]? = some (.cells #[.pointer pa, .pointer pb, .int .i64 ((T.pair a b).nodes : Int)] 104 (0, 0)) ∧ Tr B w a pa ∧ Tr B w b pb

theorem Tr.below {B : Nat} {w w' : World} : ∀ {x : T} {p : Option Addr}, Tr B w x p → Below B w w' → Tr B w' x p
  | .nil, _, h, _ => h
  | .pair _ _, _, ⟨g, pa, pb, e, hg, hh, ha, hb⟩, hB => ⟨g, pa, pb, e, hg, (hB.block g hg).trans hh, ha.below hB, hb.below hB⟩
theorem Tr.drew {B : Nat} {w : World} {x : T} {p : Option Addr} (h : Tr B w x p) : Tr B w.drew x p := h.below (Below.refl _ _).drew
theorem Tr.drewN {B : Nat} {w : World} {x : T} {p : Option Addr} (h : Tr B w x p) (n : Nat) : Tr B (w.drewN n) x p := h.below (below_drewN (Below.refl _ _) n)
theorem Tr.mono {B B' : Nat} {w : World} (hB : B ≤ B') : ∀ {x : T} {p : Option Addr}, Tr B w x p → Tr B' w x p
  | .nil, _, h => h
  | .pair _ _, _, ⟨g, pa, pb, e, hg, hh, ha, hb⟩ => ⟨g, pa, pb, e, Nat.lt_of_lt_of_le hg hB, hh, ha.mono hB, hb.mono hB⟩
theorem Tr.step {w w' : World} {x : T} {p : Option Addr} (h : Tr w.heap.size w x p) (hB : Below w.heap.size w w') : Tr w'.heap.size w' x p := (h.below hB).mono hB.size
theorem nodesOf_any (B : Nat) (x : T) (p : Option Addr) (w : World) (h : Tr B w x p) :
    Calls Try.prog 70 #[.pointer p] w fun e w' => e = .returned (.int .i64 x.nodes) ∧ w = w' := by
  cases x with
  | nil =>
    have h' : p = none := h
    subst h'
    go_enter Try.func70, Try.ntmps70
    go_wp2
    go_ret
    exact ⟨rfl, rfl⟩
  | pair a b =>
    obtain ⟨g, pa, pb, rfl, hg, hh, _, _⟩ := h
    have hc : w.cell? ⟨g, 2, none⟩ = some (.int .i64 ((T.pair a b).nodes : Int)) := by rw [cell_of_heap hh]; rfl
    clear hh
    generalize (T.pair a b).nodes = z at *
    go_enter Try.func70, Try.ntmps70
    go_wp2
    go_ret
    exact ⟨rfl, rfl⟩

theorem pair_any (a b : T) (pa pb : Option Addr) (w : World) (ha : Tr w.heap.size w a pa) (hb : Tr w.heap.size w b pb) (hn : a.nodes + b.nodes ≤ 1099511627776) :
    Calls Try.prog 69 #[.pointer pa, .pointer pb] w fun e w' => ∃ p, e = .returned (.pointer p) ∧ Tr w'.heap.size w' (.pair a b) p ∧ Below w.heap.size w w' := by
  have HN : Hid ((T.pair a b).nodes = 1 + a.nodes + b.nodes) := rfl
  go_enter Try.func69, Try.ntmps69
  go_wp2_with fail
  refine (nodesOf_any _ a pa _ ha).mono ?_
  rintro e w' ⟨rfl, rfl⟩
  go_wp2_with fail
  refine (nodesOf_any _ b pb _ hb).mono ?_
  rintro e w' ⟨rfl, rfl⟩
  go_wp2_with fail
  go_ret
  have hB : ∀ o, Below w.heap.size w (w.alloc o) := laid_below w
  refine ⟨_, rfl, ⟨w.heap.size, pa, pb, rfl, by simp, ?_, ?_, ?_⟩, hB _⟩
  · rw [heap_alloc_new, HN.out]
    simp
  · exact ha.step (hB _)
  · exact hb.step (hB _)

theorem Tr.grown {B Bk : Nat} {w w' : World} {cs : Array Value} {t : TypeId} {fr : Nat × Nat} (hg : w.grownBy w' (some Bk)) (hk : w.heap[Bk]? = some (.cells cs t fr)) (hne : 104 ≠ t) :
    ∀ {x : T} {p : Option Addr}, Tr B w x p → Tr B w' x p
  | .nil, _, h => h
  | .pair _ _, _, ⟨g, pa, pb, e, hB, hh, ha, hb⟩ => ⟨g, pa, pb, e, hB, grown_keep hg hh (fun e => heap_ne hh hk hne (by injection e)), ha.grown hg hk hne, hb.grown hg hk hne⟩

def listFn (Bo Bv : Nat) : Value := .func (.func 71) #[] #[.pointer (some ⟨Bo, 0, none⟩), .pointer (some ⟨Bv, 0, none⟩)]

theorem Tr.back {w0 w : World} (hB : Below w0.heap.size w0 w) : ∀ {x : T} {p : Option Addr}, Tr w0.heap.size w x p → Tr w0.heap.size w0 x p
  | .nil, _, h => h
  | .pair _ _, _, ⟨g, pa, pb, e, hg, hh, ha, hb⟩ => ⟨g, pa, pb, e, hg, (hB.block g hg).symm.trans hh, Tr.back hB ha, Tr.back hB hb⟩
theorem visit_stored {w0 w w1 : World} {Bo Bv : Nat} {v v1 fv : Value} {n m : Nat} {xs ys : List Value} (hBo : w0.heap.size ≤ Bo) (hB : Below w0.heap.size w0 w) (hown : w.ownsRow w0.heap.size 4 1 v n xs)
    (ho : w.heap[Bo]? = some (.cells #[v] 26 (0, 0))) (hv : w.heap[Bv]? = some (.cells #[fv] 108 (0, 0))) (hg1 : w.grownBy w1 v.ownBlock) (hown1 : w1.ownsRow w0.heap.size 4 1 v1 m ys) :
    (w1.setCell ⟨Bo, 0, none⟩ v1).heap[Bo]? = some (.cells #[v1] 26 (0, 0)) ∧ (w1.setCell ⟨Bo, 0, none⟩ v1).heap[Bv]? = some (.cells #[fv] 108 (0, 0)) ∧
      (w1.setCell ⟨Bo, 0, none⟩ v1).ownsRow w0.heap.size 4 1 v1 m ys ∧ Below w0.heap.size w0 (w1.setCell ⟨Bo, 0, none⟩ v1) := by
  have ho1 := grown_keep hg1 ho (own_ne_block hown ho (by decide))
  have hv1 := grown_keep hg1 hv (own_ne_block hown hv (by decide))
  refine ⟨heap_set ho1 v1, heap_set_other hv1 _ (heap_ne hv1 ho1 (by decide)) _, own_setCell hown1 (own_ne_block hown1 ho1 (by decide)) _, ?_⟩
  exact (hB.grown hg1 hB.size fun k hk => (hown.lt k hk).1).setCell hBo _

set_option maxRecDepth 100000 in
set_option maxHeartbeats 1000000 in
theorem visit_any (w0 : World) (Bo Bv : Nat) (hBo : w0.heap.size ≤ Bo) (hBv : w0.heap.size ≤ Bv) (x : T) : ∀ (p : Option Addr) (w : World) (v : Value) (n : Nat) (xs : List Value),
    Tr w0.heap.size w x p → w.heap[Bo]? = some (.cells #[v] 26 (0, 0)) → w.heap[Bv]? = some (.cells #[listFn Bo Bv] 108 (0, 0)) → w.ownsRow w0.heap.size 4 1 v n xs →
    Below w0.heap.size w0 w → n + x.nodes ≤ 4194304 →
    Calls Try.prog 71 #[.pointer p, .pointer (some ⟨Bo, 0, none⟩), .pointer (some ⟨Bv, 0, none⟩)] w fun e w' => e = .returned (.tuple #[]) ∧
      ∃ v', w'.heap[Bo]? = some (.cells #[v'] 26 (0, 0)) ∧ w'.heap[Bv]? = some (.cells #[listFn Bo Bv] 108 (0, 0)) ∧
        w'.ownsRow w0.heap.size 4 1 v' (n + x.nodes) (xs ++ x.enc.map .bool) ∧ Below w0.heap.size w0 w' := by
  induction x with
  | nil =>
    intro p w v n xs h ho hv hown hB hn
    have h' : p = none := h
    subst h'
    obtain ⟨hco, hfo, HO⟩ := var_facts ho
    have HV := Lib.hid hv
    clear ho hv h
    have hn' : n + 1 ≤ 4194304 := hn
    go_enter Try.func71, Try.ntmps71
    go_wp2_with (at_builtin; refine wpList_appg rfl _ _ _ rfl Try.underlying26 infoBoolS rfl (by omega) w0.heap.size w hown hB.size rfl 1 #[.bool false] rfl (laid_below _ _) (heap_alloc_new _ _) rfl (by simp [Value.oneCell']) (by omega) (by unfold maxLen; omega) (by omega) ?_; intro g cap w1 hown1 hg1; obtain ⟨hc1, hf1, HO1⟩ := var_keep hg1 hown HO.out (by decide))
    go_end0
    obtain ⟨h1, h2, h3, h4⟩ := visit_stored hBo hB hown HO.out HV.out hg1 hown1
    exact ⟨rfl, _, h1, h2, h3, h4⟩
  | pair a b iha ihb =>
    intro p w v n xs h ho hv hown hB hn
    have HA := Lib.hid iha; have HBb := Lib.hid ihb
    clear iha ihb
    obtain ⟨g0, pa, pb, rfl, hg0, hh0, hta, htb⟩ := h
    obtain ⟨hco, hfo, HO⟩ := var_facts ho
    have HV := Lib.hid hv
    have HH := Lib.hid hh0
    clear ho hv hh0
    have hnodes : (T.pair a b).nodes = 1 + a.nodes + b.nodes := rfl
    have hn' : n + (1 + a.nodes + b.nodes) ≤ 4194304 := by rw [← hnodes]; exact hn
    have HN := Lib.hid hnodes
    clear hnodes hn
    go_enter Try.func71, Try.ntmps71
    go_wp2_with (at_builtin; refine wpList_appg rfl _ _ _ rfl Try.underlying26 infoBoolS rfl (by omega) w0.heap.size w hown hB.size rfl 1 #[.bool true] rfl (laid_below _ _) (heap_alloc_new _ _) rfl (by simp [Value.oneCell']) (by omega) (by unfold maxLen; omega) (by omega) ?_; intro g cap w1 hown1 hg1; obtain ⟨hc1, hf1, HO1⟩ := var_keep hg1 hown HO.out (by decide))
    obtain ⟨k1, k2, k3, k4⟩ := visit_stored hBo hB hown HO.out HV.out hg1 hown1
    clear hc1 hf1 HO1 hown1 hg1 hown hco hfo HO HV
    have HH0 := Lib.hid ((hB.block g0 hg0).symm.trans HH.out)
    generalize (Value.slice (some { block := g, off := 0 }) (n + 1) cap) = v1 at *
    generalize w1.setCell { block := Bo, off := 0 } v1 = w2 at *
    obtain ⟨hc2, _, K2⟩ := var_facts k2
    have hca : w2.cell? ⟨g0, 0, none⟩ = some (.pointer pa) := by rw [cell_of_heap ((k4.block g0 hg0).trans HH0.out)]; rfl
    have K1 := Lib.hid k1
    have hta2 : Tr w0.heap.size w2 a pa := (Tr.back hB hta).below k4
    have htb0 : Tr w0.heap.size w0 b pb := Tr.back hB htb
    clear k1 k2
    unfold listFn at hc2
    go_still_tail 5, (by kernel_rfl)
    go_wp2_with fail
    refine (HA.out pa w2.drew v1 (n + 1) _ (by exact hta2.drew) (by exact K1.out) (by exact K2.out) (by exact k3) (by exact k4.drew) (by omega)).mono ?_
    rintro e w3 ⟨rfl, v3, j1, j2, j3, j4⟩
    clear hc2 hca hta2 K1 K2 k3 HA
    obtain ⟨hc3, _, J2⟩ := var_facts j2
    have hcb : w3.cell? ⟨g0, 1, none⟩ = some (.pointer pb) := by rw [cell_of_heap ((j4.block g0 hg0).trans HH0.out)]; rfl
    have J1 := Lib.hid j1
    have htb3 : Tr w0.heap.size w3 b pb := htb0.below j4
    clear j1 j2
    unfold listFn at hc3
    go_wp2_with fail
    go_still_tail 5, (by kernel_rfl)
    go_wp2_with fail
    refine (HBb.out pb w3.drew v3 (n + 1 + a.nodes) _ (by exact htb3.drew) (by exact J1.out) (by exact J2.out) (by exact j3) (by exact j4.drew) (by omega)).mono ?_
    rintro e w4 ⟨rfl, v4, i1, i2, i3, i4⟩
    have I1 := Lib.hid i1; have I2 := Lib.hid i2
    clear i1 i2
    go_wp2_with fail
    go_end0
    refine ⟨rfl, v4, I1.out, I2.out, ?_, i4⟩
    rw [HN.out, show n + (1 + a.nodes + b.nodes) = n + 1 + a.nodes + b.nodes from by omega]
    simpa [T.enc, List.append_assoc] using i3

theorem three_top (w : World) (o1 o2 o3 : Obj) : (((w.alloc o1).alloc o2).alloc o3).heap[w.heap.size + 1 + 1]? = some o3 := by
  have := heap_alloc_new ((w.alloc o1).alloc o2) o3
  simpa using this
theorem three_mid (w : World) (o1 o2 o3 : Obj) : (((w.alloc o1).alloc o2).alloc o3).heap[w.heap.size + 1]? = some o2 := by
  have h1 := heap_alloc_new (w.alloc o1) o2
  rw [Below.heap_alloc _ _ _ (by simp)]
  simpa using h1
theorem three_low (w : World) (o1 o2 o3 : Obj) : (((w.alloc o1).alloc o2).alloc o3).heap[w.heap.size]? = some o1 := by
  rw [Below.heap_alloc _ _ _ (by simp; omega), Below.heap_alloc _ _ _ (by simp)]
  exact heap_alloc_new w o1
theorem own_three (w : World) (cs : Array Value) (e : TypeId) (o2 o3 : Obj) {z : Nat} (hz : z ≤ maxLen) (hs : cs.size = z * 1) : (((w.alloc (.cells cs e)).alloc o2).alloc o3).ownsRow w.heap.size e 1 (.slice (some ⟨w.heap.size, 0, none⟩) 0 z) 0 [] :=
  ((World.ownsRow_made w cs z (Nat.le_refl _) hz hs).alloc o2).alloc o3

set_option maxRecDepth 100000 in
theorem list_any (x : T) (p : Option Addr) (w : World) (h : Tr w.heap.size w x p) (hn : x.nodes ≤ 4194304) :
    Calls Try.prog 36 #[.pointer p] w fun e w' => ∃ v, e = .returned v ∧ w'.ownsRow w.heap.size 4 1 v x.nodes (x.enc.map .bool) ∧ Below w.heap.size w w' := by
  have hmk := fun W => run_make_cap (P := Try.prog) 26 4 (.bool false) 1 Try.underlying26 infoBoolS rfl .i64 .i64 x.nodes (by omega) (by omega) W
  generalize hz : x.nodes = z at *
  have HZ := Lib.hid hz
  clear hz
  go_enter Try.func36, Try.ntmps36
  go_wp2_with fail
  refine (nodesOf_any _ x p _ h).mono ?_
  rintro e w' ⟨rfl, rfl⟩
  rw [HZ.out]
  go_wp2_with fail
  have hB : Below w.heap.size w (((w.alloc (.cells (madeCells #[Value.bool false] z) 4)).alloc (.cells #[.slice (some ⟨w.heap.size, 0, none⟩) 0 z] 26)).alloc (.cells #[listFn (w.heap.size + 1) (w.heap.size + 1 + 1)] 108)) :=
    (((Below.refl _ _).alloc (Nat.le_refl _) _).alloc (by simp) _).alloc (by simp <;> omega) _
  refine (visit_any w (w.heap.size + 1) (w.heap.size + 1 + 1) (by omega) (by omega) x p _ (.slice (some ⟨w.heap.size, 0, none⟩) 0 z) 0 [] (h.below hB) ?_ ?_ ?_ hB (by have := HZ.out; omega)).mono ?_
  · exact three_mid _ _ _ _
  · exact three_top _ _ _ _
  · exact own_three _ _ _ _ _ (by unfold maxLen; omega) (by rw [size_madeCells]; omega)
  rintro e w' ⟨rfl, v', h1, h2, h3, h4⟩
  obtain ⟨hc, _, H1⟩ := var_facts h1
  have H2 := Lib.hid h2
  clear h1 h2 hB hmk
  go_wp2_with fail
  go_ret
  exact ⟨v', rfl, by have h5 := HZ.out; rw [← h5]; simpa using h3, h4⟩

theorem Sl.grown {w w' : World} {b off Bk : Nat} {xs : List Value} (h : Sl w b off xs) (hg : w.grownBy w' (some Bk)) (hne : b ≠ Bk) : Sl w' b off xs :=
  ⟨Nat.lt_of_lt_of_le h.1 hg.size, fun j u hu => (World.cell?_of_block (w := w) (a := ⟨b, off + j, none⟩) (hg.block b h.1 (fun e => hne (by injection e)))).trans (h.2 j u hu)⟩

def buildFn (Bt Bk Bf : Nat) : Value := .func (.func 94) #[] #[.pointer (some ⟨Bt, 0, none⟩), .pointer (some ⟨Bk, 0, none⟩), .pointer (some ⟨Bf, 0, none⟩)]

theorem drop_head {α : Type} {l : List α} {k : Nat} {x : α} {r : List α} (h : l.drop k = x :: r) : l[k]? = some x ∧ l.drop (k + 1) = r ∧ k < l.length := by
  have hk : k < l.length := by
    rcases Nat.lt_or_ge k l.length with hk | hk
    · exact hk
    · rw [List.drop_of_length_le hk] at h; cases h
  rw [List.drop_eq_getElem_cons hk] at h
  injection h with h1 h2
  exact ⟨by rw [List.getElem?_eq_getElem hk, h1], h2, hk⟩

set_option maxRecDepth 100000 in
set_option maxHeartbeats 1000000 in
theorem build_any (Bt Bk Bf b off n c : Nat) (t : List Bool) (hb : b < Bk) (hl : t.length = n) (hn : n ≤ 4194304) (x : T) : ∀ (r : List Bool) (k : Nat) (w : World),
    t.drop k = x.enc ++ r → w.heap[Bt]? = some (.cells #[.slice (some ⟨b, off, none⟩) n c] 26 (0, 0)) → w.heap[Bk]? = some (.cells #[.int .i64 k] 3 (0, 0)) →
    w.heap[Bf]? = some (.cells #[buildFn Bt Bk Bf] 100 (0, 0)) → Sl w b off (t.map .bool) →
    Calls Try.prog 94 #[.pointer (some ⟨Bt, 0, none⟩), .pointer (some ⟨Bk, 0, none⟩), .pointer (some ⟨Bf, 0, none⟩)] w fun e w' => ∃ p, e = .returned (.pointer p) ∧
      Tr w'.heap.size w' x p ∧ w.grownBy w' (some Bk) ∧ Hid (w'.heap[Bk]? = some (.cells #[.int .i64 (k + x.nodes : Nat)] 3 (0, 0))) := by
  have HL := Lib.hid hl
  clear hl
  induction x with
  | nil =>
    intro r k w hd h1 h2 h3 hs
    obtain ⟨hx, _, hk⟩ := drop_head (show t.drop k = false :: r from hd)
    have hlt : k < n := by have := HL.out; omega
    obtain ⟨c1, _, H1⟩ := var_facts h1
    obtain ⟨c2, f2, H2⟩ := var_facts h2
    have hc := hs.at (j := k) (u := .bool false) (by rw [List.getElem?_map, hx]; rfl)
    have H3 := Lib.hid h3
    clear h1 h2 h3 hx hd hk
    go_enter Try.func94, Try.ntmps94
    go_wp2_with fail
    go_ret
    exact ⟨none, rfl, rfl, grown_setCell (World.grownBy.refl _ _) _ _, heap_set H2.out _⟩
  | pair x y ihx ihy =>
    intro r k w hd h1 h2 h3 hs
    have HX := Lib.hid ihx; have HY := Lib.hid ihy
    clear ihx ihy
    obtain ⟨hx, hd1, hk⟩ := drop_head (show t.drop k = true :: (x.enc ++ (y.enc ++ r)) from by rw [hd]; simp [T.enc])
    have hlt : k < n := by have := HL.out; omega
    obtain ⟨c1, _, H1⟩ := var_facts h1
    obtain ⟨c2, f2, H2⟩ := var_facts h2
    obtain ⟨c3, _, H3⟩ := var_facts h3
    have hc := hs.at (j := k) (u := .bool true) (by rw [List.getElem?_map, hx]; rfl)
    have hd2 : t.drop (k + 1 + x.nodes) = y.enc ++ r := by
      rw [← List.drop_drop, hd1]
      rw [← T.length_enc, List.drop_left]
    have HD1 := Lib.hid hd1; have HD2 := Lib.hid hd2
    have hlen : (x.enc ++ (y.enc ++ r)).length ≤ n := by rw [← hd1, List.length_drop]; have := HL.out; omega
    have hnn : x.nodes + y.nodes ≤ 4194304 := by
      simp only [List.length_append, T.length_enc] at hlen; omega
    clear h1 h2 h3 hx hd hk hd1 hd2 hlen
    unfold buildFn at c3
    have c3' : (w.setCell ⟨Bk, 0, none⟩ (.int .i64 (k + 1))).cell? ⟨Bf, 0, none⟩ = some (Value.func (Fn.func 94) #[] #[Value.pointer (some ⟨Bt, 0, none⟩), Value.pointer (some ⟨Bk, 0, none⟩), Value.pointer (some ⟨Bf, 0, none⟩)]) := by
      rw [World.cell?_setCell_other _ _ _ _ (fun e => heap_ne H2.out H3.out (by decide) (by injection e))]; exact c3
    go_enter Try.func94, Try.ntmps94
    go_wp2_with fail
    have G1 : w.grownBy (w.setCell ⟨Bk, 0, none⟩ (.int .i64 (k + 1))) (some Bk) := grown_setCell (World.grownBy.refl _ _) _ _
    have K1 := Lib.hid (grown_keep G1 H1.out (fun e => heap_ne H1.out H2.out (by decide) (by injection e)))
    have K2 : Hid ((w.setCell ⟨Bk, 0, none⟩ (.int .i64 (k + 1))).heap[Bk]? = some (.cells #[.int .i64 (k + 1 : Nat)] 3 (0, 0))) := heap_set H2.out _
    have K3 := Lib.hid (grown_keep G1 H3.out (fun e => heap_ne H3.out H2.out (by decide) (by injection e)))
    have hs1 := hs.grown G1 (by omega)
    clear c3' c1 c2 c3 f2 hc
    generalize w.setCell ⟨Bk, 0, none⟩ (.int .i64 (k + 1)) = w1 at *
    refine (HX.out _ (k + 1) w1 HD1.out K1.out K2.out K3.out hs1).mono ?_
    rintro e w2 ⟨p1, rfl, ht1, G2, J2⟩
    have J1 := Lib.hid (grown_keep G2 K1.out (fun e => heap_ne K1.out K2.out (by decide) (by injection e)))
    have J3 := grown_keep G2 K3.out (fun e => heap_ne K3.out K2.out (by decide) (by injection e))
    have hs2 := hs1.grown G2 (by omega)
    obtain ⟨c4, _, J3⟩ := var_facts J3
    unfold buildFn at c4
    clear K1 K2 K3 hs1 HX
    go_wp2_with fail
    refine (HY.out _ (k + 1 + x.nodes) w2 HD2.out J1.out J2.out J3.out hs2).mono ?_
    rintro e w3 ⟨p2, rfl, ht2, G3, I2⟩
    have ht1' : Tr w3.heap.size w3 x p1 := (ht1.grown G3 J2.out (by decide)).mono G3.size
    clear c4 J1 J3 hs2 HY
    go_wp2_with fail
    refine (pair_any x y p1 p2 w3 ht1' ht2 (by omega)).mono ?_
    rintro e w4 ⟨p, rfl, ht, hB4⟩
    go_wp2_with fail
    go_ret
    refine ⟨p, rfl, ht, ((G1.trans G2).trans G3).trans (grown_of_below hB4 _), ?_⟩
    have e : k + (T.pair x y).nodes = k + 1 + x.nodes + y.nodes := by simp [T.nodes]; omega
    rw [e]
    exact (hB4.block Bk (heap_lt I2.out)).trans I2.out

set_option maxRecDepth 100000 in
theorem treeOf_any (b off n c : Nat) (x : T) (w : World) (hs : Sl w b off (x.enc.map .bool)) (hl : x.nodes = n) (hn : n ≤ 4194304) :
    Calls Try.prog 60 #[.slice (some ⟨b, off, none⟩) n c] w fun e w' => ∃ p, e = .returned (.pointer p) ∧ Tr w'.heap.size w' x p ∧ Below w.heap.size w w' := by
  have HL := Lib.hid hl; clear hl
  go_enter Try.func60, Try.ntmps60
  go_wp2_with fail
  have hB : ∀ o1 o2 o3, Below w.heap.size w (((w.alloc o1).alloc o2).alloc o3) := fun o1 o2 o3 => (((Below.refl _ _).alloc (Nat.le_refl _) _).alloc (by simp) _).alloc (by simp <;> omega) _
  refine (build_any w.heap.size (w.heap.size + 1) (w.heap.size + 1 + 1) b off n c x.enc (by have := hs.1; omega) (by rw [T.length_enc]; exact HL.out) hn x [] 0 _ (by simp) (three_low _ _ _ _) (three_mid _ _ _ _) (three_top _ _ _ _) (hs.below' (hB _ _ _))).mono ?_
  rintro e w' ⟨p, rfl, ht, G, _⟩
  have hB' : Below w.heap.size w w' := (hB _ _ _).grown G (by simp <;> omega) (fun k hk => by injection hk with hk; omega)
  clear hB G
  go_wp2_with fail
  go_ret
  exact ⟨p, rfl, ht, hB'⟩

theorem depth_le (x : T) : x.depth ≤ x.nodes := by
  induction x with
  | nil => simp [T.depth]
  | pair a b ha hb => simp [T.depth, T.nodes]; omega

end Go.Proofs.Ytgcedfpjgdeakaa
