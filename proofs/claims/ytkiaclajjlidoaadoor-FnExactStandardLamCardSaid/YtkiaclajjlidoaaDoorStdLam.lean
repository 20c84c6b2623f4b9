/- StandardLam, the program's and the reference's. -/
import Derived.Test.YtkiaclajjlidoaaDoorStdPlain
import Derived.Test.YtkiaclajjlidoaaDoorLamRead
import Derived.Maps.OwnOps
import Derived.Maps.OwnSet
import Derived.Maps.StringElems
import Derived.Maps.Views
import Derived.WideKeyArgs2
namespace Go.Proofs.YtkiaclajjlidoaaDoor
open Go.RowKit
open Go.Maps (Keyed)
set_option linter.all false

/-- A map of the call's own, of texts by texts: what was put, the youngest first. -/
def Tab (w0 : World) (b n : Nat) (ps : List (List UInt8 × List UInt8)) (W : World) : Prop :=
  (∃ D : DataW Unit, W.ownsMap Tryd.prog 9 (plainElem Tryd.prog 9) b n D ∧ Maps.IsMap D ∧ (∀ z, Maps.has D (.string z) = (look ps z).isSome) ∧ ∀ z, D.atKey (.string z) (.lit (.string [])) = .lit (.string ((look ps z).getD []))) ∧
    Below w0.heap.size w0 W ∧ w0.heap.size ≤ b
theorem Tab.start (w : World) : Tab w w.heap.size 0 [] (w.alloc (.map #[] 0)) :=
  ⟨⟨.map [], World.ownsMap_made _ _ _ _, Maps.isMap_empty, fun z => rfl, fun z => rfl⟩, laid_below _ _, Nat.le_refl _⟩
theorem below_grownS {B b : Nat} {w w' w'' : World} (h : Below B w w') (hB : B ≤ w'.heap.size) (hg : w'.grownBy w'' (some b)) (hb : B ≤ b) : Below B w w'' :=
  ⟨hg.os.trans h.os, hg.tape.trans h.tape, hg.output.trans h.output, Nat.le_trans h.size hg.size, fun k hk => (hg.block k (by omega) (fun e => by injection e with e; omega)).trans (h.block k hk)⟩
theorem wpList_tab {w0 w : World} {ops : Array Oper} {rest : List Oper} {o : Oper} {a : Act} {Q : Exit → Act → World → Prop} (hg : o.guard = none) (m x v : Operand) (hop : o.op = Op.insert 63 m x v)
    (b n : Nat) (ps : List (List UInt8 × List UInt8)) (hm : a.eval m = .map (some b)) (h : Tab w0 b n ps w) (hn : n < 1000) (k d : ByteArray) (hx : a.eval x = .string k) (hv : a.eval v = .string d) (hk : k.size ≤ 1000) (hd : d.size ≤ 1000)
    (hK : ∀ w', Tab w0 b (n + 1) ((k.data.toList, d.data.toList) :: ps) w' → wpList Tryd.prog ops Q rest (a.put o.dst undef) w') : wpList Tryd.prog ops Q (o :: rest) a w := by
  obtain ⟨⟨D, h1, h2, h3, h4⟩, hB, hb⟩ := h
  have law := Go.Maps.string_keyed Tryd.underlying9
  have HKEY : keyOf Tryd.prog 9 (.string k) = some (.string k.data.toList) := Go.WideMaps.keyOf_string_mk Tryd.underlying9 (by unfold maxLen; omega)
  refine wpList_plain hg fun K' hK' => ?_
  obtain ⟨w', hrun, h5, hg'⟩ := h1.update law Tryd.underlying63 (by unfold maxLen; omega) HKEY (d := .lit (.string d.data.toList)) (ps := []) (plainElem_string Tryd.underlying9 (s := d) (by unfold maxLen; omega))
  unfold Oper.wp
  simp [execOp, hop, hm, hx, hv, hrun, Result.andThen]
  refine hK' _ _ ?_
  refine hK w' ⟨⟨_, h5, h2.put _ _, fun z => ?_, fun z => ?_⟩, below_grownS hB hB.size hg' hb, hb⟩
  · by_cases e : z = k.data.toList
    · subst e
      rw [Maps.has_put_same h2 (by unfold WideAt.IsKeyLit; trivial), look_cons_same]; rfl
    · rw [Maps.has_put_other (fun e2 => e (by injection e2)), look_cons_other _ _ e, h3]
  · by_cases e : z = k.data.toList
    · subst e
      rw [Maps.atKey_put_same h2 (by unfold WideAt.IsKeyLit; trivial), look_cons_same]; rfl
    · rw [Maps.atKey_put_other (fun e2 => e (by injection e2)), look_cons_other _ _ e, h4]
theorem zeroStringT (w : World) : (zeroValue 9).run Tryd.prog w = .ok (.string ⟨#[]⟩) w := by kernel_rfl
theorem wpList_tab_look {w0 w : World} {ops : Array Oper} {rest : List Oper} {o : Oper} {a : Act} {Q : Exit → Act → World → Prop} (hg : o.guard = none) (m x : Operand) (hop : o.op = Op.lookup 63 m x true)
    (b n : Nat) (ps : List (List UInt8 × List UInt8)) (hm : a.eval m = .map (some b)) (h : Tab w0 b n ps w) (s : ByteArray) (hx : a.eval x = .string s) (hs : s.size ≤ 1048576) (r : Option (List UInt8)) (hr : look ps s.data.toList = r)
    (hK : ∀ d : ByteArray, d.data.toList = r.getD [] → wpList Tryd.prog ops Q rest (a.put o.dst (.tuple #[.string d, .bool r.isSome])) w) : wpList Tryd.prog ops Q (o :: rest) a w := by
  obtain ⟨⟨D, h1, h2, h3, h4⟩, hB, hb⟩ := h
  have law := Go.Maps.string_keyed Tryd.underlying9
  have HKEY : keyOf Tryd.prog 9 (.string s) = some (.string s.data.toList) := Go.WideMaps.keyOf_string_mk Tryd.underlying9 (by unfold maxLen; omega)
  refine wpList_lookup_own_ok (H := Unit) _ hg _ _ 63 hop 9 9 law Tryd.underlying63 _ (zeroStringT _) (.lit (.string [])) [] (plainElem_string Tryd.underlying9 (by decide)) b n D hm h1 _ _ hx HKEY ?_
  intro v qs hv
  obtain ⟨d, rfl, he, _⟩ := plainElem_string_inv Tryd.underlying9 hv
  rw [h3, hr]
  refine hK d ?_
  have e2 := congrArg Prod.fst he
  rw [h4, hr] at e2
  exact (Lit.string.inj (DataW.lit.inj e2)).symm

set_option maxRecDepth 100000 in
set_option maxHeartbeats 4000000 in
theorem implStandardLam_any (s : ByteArray) (w : World) (hsz : s.size ≤ 1048576) :
    Calls Tryd.prog 12 #[.string s] w fun e w' => ∃ v, e = .returned (.tuple #[v, .int .i64 (stdLam s).2]) ∧ w'.ownsRow w.heap.size 67 2 v (stdLam s).1.length (rows R2.vs (stdLam s).1) ∧ Below w.heap.size w w' := by
  have hT := Tab.start w
  have hmm := @run_makeMap Tryd.prog
  have hcases : look stdTab s.data.toList = none ∨ ∃ l, look stdTab s.data.toList = some l := by
    cases look stdTab s.data.toList with
    | none => exact .inl rfl
    | some l => exact .inr ⟨l, rfl⟩
  rcases hcases with h | ⟨l, h⟩
  · have HF := Lib.hid (stdLam_none h)
    have HL : Hid (look stdRev s.data.toList = none) := by unfold Hid; rw [look_rev, h]
    clear h
    go_enter Tryd.func12, Tryd.ntmps12
    go_wp2_with (first
      | (refine wpList_tab rfl _ _ _ rfl w.heap.size _ _ rfl hT (by decide) _ _ rfl rfl (by decide) (by decide) ?_; clear hT; intro wm hT)
      | (at_lookup; refine wpList_tab_look rfl _ _ rfl w.heap.size _ _ rfl hT s rfl hsz none HL.out ?_; intro dd hdd))
    have HB := Lib.hid hT.2.1
    clear hT
    go_ret2
    rw [HF.out]
    exact ⟨_, rfl, World.ownsRow_nil _ _ _ _, HB.out⟩
  · have HF := Lib.hid (stdLam_some h)
    have HL : Hid (look stdRev s.data.toList = some l) := by unfold Hid; rw [look_rev, h]
    have HOK := Lib.hid (look_ok h)
    clear h
    go_enter Tryd.func12, Tryd.ntmps12
    go_wp2_with (first
      | (refine wpList_tab rfl _ _ _ rfl w.heap.size _ _ rfl hT (by decide) _ _ rfl rfl (by decide) (by decide) ?_; clear hT; intro wm hT)
      | (at_lookup; refine wpList_tab_look rfl _ _ rfl w.heap.size _ _ rfl hT s rfl hsz (some l) HL.out ?_; intro dd hdd; have HDD := Lib.hid hdd; clear hdd))
    have HB := Lib.hid hT.2.1
    clear hT
    refine (lamOf_any dd l (tmOf l) HDD.out HOK.out _).mono ?_
    rintro e w2 ⟨v, rfl, own2, b2⟩
    have HO := Lib.hid (own_base own2 HB.out.size)
    go_wp2_with fail
    go_ret2
    rw [HF.out]
    exact ⟨_, rfl, HO.out, below_step HB.out b2⟩

def stdCells : List Value := stdTab.flatMap fun p => [.string ⟨p.1.toArray⟩, .string ⟨p.2.toArray⟩]
theorem pairs_at (l : List (List UInt8 × List UInt8)) : ∀ k p, l[k]? = some p → (l.flatMap fun p => [Value.string ⟨p.1.toArray⟩, Value.string ⟨p.2.toArray⟩])[2 * k]? = some (.string ⟨p.1.toArray⟩) ∧ (l.flatMap fun p => [Value.string ⟨p.1.toArray⟩, Value.string ⟨p.2.toArray⟩])[2 * k + 1]? = some (.string ⟨p.2.toArray⟩) := by
  induction l with
  | nil => intro k p h; simp at h
  | cons q l ih =>
    intro k p h
    cases k with
    | zero => simp at h; subst h; exact ⟨rfl, rfl⟩
    | succ k =>
      rw [List.getElem?_cons_succ] at h
      obtain ⟨h1, h2⟩ := ih k p h
      rw [List.flatMap_cons, show 2 * (k + 1) = 2 + 2 * k by omega]
      exact ⟨by rw [List.getElem?_append_right (by simp)]; simpa using h1, by rw [List.getElem?_append_right (by simp; omega)]; simpa [show 2 + 2 * k + 1 - 2 = 2 * k + 1 by omega] using h2⟩
theorem l18Standard_any (w : World) : Calls Tryd.prog 29 #[] w fun e w' => e = .returned (.slice (some ⟨w.heap.size, 0, none⟩) 22 22) ∧ w' = w.alloc (.cells stdCells.toArray 9) := by
  go_enter Tryd.func29, Tryd.ntmps29
  go_wp2_with fail
  go_ret
  exact ⟨rfl, rfl⟩

set_option maxRecDepth 100000 in
set_option maxHeartbeats 4000000 in
theorem specStandardLam_any (s : ByteArray) (w : World) (hsz : s.size ≤ 1048576) :
    Calls Tryd.prog 11 #[.string s] w fun e w' => ∃ v, e = .returned (.tuple #[v, .int .i64 (stdLam s).2]) ∧ w'.ownsRow w.heap.size 67 2 v (stdLam s).1.length (rows R2.vs (stdLam s).1) ∧ Below w.heap.size w w' := by
  obtain ⟨w1, HW1, B1, x1⟩ := al1 w (.cells stdCells.toArray 9)
  have HX1 := Lib.hid x1
  have HB1 := Lib.hid B1
  clear x1 B1
  go_enter Tryd.func11, Tryd.ntmps11
  go_wp2_with fail
  refine (l18Standard_any w).mono ?_
  rintro e w1' ⟨rfl, hw1⟩
  obtain rfl : w1' = w1 := by rw [hw1, HW1.out]
  clear hw1
  go_wp2_with fail
  go_loopw [5] (fun i wr => ∃ k : Nat, k ≤ 11 ∧ i = .int .i64 (2 * k : Nat) ∧ wr = w1' ∧ Hid (∀ j p, j < k → stdTab[j]? = some p → p.1 ≠ s.data.toList)) (fun i _ => 22 - (intOf i).toNat)
  case atStart => exact ⟨0, by omega, rfl, rfl, by unfold Hid; intro j p h; omega⟩
  case round =>
    obtain ⟨k, hk, rfl, rfl, HN⟩ := hrel
    rcases Nat.lt_or_ge k 11 with hlt | hge
    · obtain ⟨p, hp⟩ : ∃ p, stdTab[k]? = some p := ⟨_, List.getElem?_eq_getElem (by have : stdTab.length = 11 := rfl; omega)⟩
      obtain ⟨h1, h2⟩ := pairs_at stdTab k p hp
      have hmem : p ∈ stdTab := List.mem_of_getElem? hp
      obtain ⟨q, hq⟩ : ∃ q, 2 * k = q := ⟨_, rfl⟩
      rw [hq] at h1 h2 ⊢
      have c0 : wr.cell? ⟨w.heap.size, q, none⟩ = some (.string ⟨p.1.toArray⟩) := by
        rw [cell_of_heap HX1.out]; simpa [stdCells] using h1
      have c1 : wr.cell? ⟨w.heap.size, q + 1, none⟩ = some (.string ⟨p.2.toArray⟩) := by
        rw [cell_of_heap HX1.out]; simpa [stdCells] using h2
      have hqI : (q : Int) < 22 := by omega
      have hq1 : (q : Int) + 1 < 22 := by omega
      have hwq : IntKind.i64.wrap ((q : Int) + 1) = (q : Int) + 1 := IntWalk.i64_in _ (by omega)
      have hwq2 : IntKind.i64.wrap ((q : Int) + 2) = (q : Int) + 2 := IntWalk.i64_in _ (by omega)
      by_cases e : p.1 = s.data.toList
      · have hz : (p.1 == s.toList) = true := by rw [ByteArray.toList_eq, e]; simp
        have HF := Lib.hid (stdLam_some (s := s) (l := p.2) (by rw [← e]; exact (std_same p hmem).2))
        have HRD := Lib.hid (l12Read_text ⟨p.2.toArray⟩ p.2 (tmOf p.2) (by simp) (TxOk.of (std_ok p hmem)))
        clear h1 h2 hp e hmem hq
        go_wp2_with fail
        refine (HRD.out _).mono ?_
        rintro e w2 ⟨v, rfl, own2, b2⟩
        have HO := Lib.hid (own_base own2 HB1.out.size)
        clear own2
        go_wp2_with fail
        go_ret2
        rw [HF.out]
        exact ⟨_, rfl, HO.out, below_step HB1.out b2⟩
      · have hz : (p.1 == s.toList) = false := by rw [ByteArray.toList_eq]; simpa using e
        have HN2 : Hid (∀ j p, j < k + 1 → stdTab[j]? = some p → p.1 ≠ s.data.toList) := by
          unfold Hid
          intro j p' hj hp'
          rcases Nat.lt_or_ge j k with h | h
          · exact HN.out j p' h hp'
          · obtain rfl : j = k := by omega
            rw [hp] at hp'; injection hp' with hp'; rw [← hp']; exact e
        have HQ : Hid (2 * (k + 1) = q + 2) := by unfold Hid; omega
        clear h1 h2 hp e hmem hq
        go_wp2_with fail
        go_roundw
        case rel => exact ⟨k + 1, by omega, by rw [HQ.out]; go_num, by first | rfl | trivial, HN2⟩
        case measure => first | (simp [intOf]; done) | (simp [intOf]; omega)
    · obtain rfl : k = 11 := by omega
      have HF := Lib.hid (stdLam_none (s := s) (look_none (fun p hp => by
        obtain ⟨j, hj⟩ := List.getElem?_of_mem hp
        exact HN.out j p (by have := (List.getElem?_eq_some_iff.1 hj).1; have e : stdTab.length = 11 := rfl; omega) hj)))
      rw [show ((2 * 11 : Nat) : Int) = 22 from rfl]
      go_wp2_with fail
      go_ret2
      rw [HF.out]
      exact ⟨_, rfl, World.ownsRow_nil _ _ _ _, HB1.out⟩
end Go.Proofs.YtkiaclajjlidoaaDoor
