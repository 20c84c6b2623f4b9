/- EvalExpr of the program: the store's trees, the evaluation, and the deferred closure that catches the panic. -/
import Derived.Test.YtgcedfpjgdeakaaEvImpl1
import Derived.Test.YtgcedfpjgdeakaaEvSpec2
import Derived.Defers
import Derived.Recover
import Derived.Laws.Pointers
namespace Go.Proofs.Ytgcedfpjgdeakaa
open Go.RowKit
set_option linter.all false

theorem isTree_nil (w : World) : Calls Try.prog 93 #[.slice none 0 0] w fun e w' => e = .returned (.bool false) ∧ w = w' := by
  go_enter Try.func93, Try.ntmps93
  go_wp2_with fail
  refine (size_bool_any _ 0 0 _).mono ?_
  rintro e w' ⟨rfl, rfl⟩
  go_wp2_with fail
  refine (within_is 0 1 2000 false (by rw [inB_false]; omega) _).mono ?_
  rintro e w' ⟨rfl, rfl⟩
  go_wp2_with fail
  go_ret
  exact ⟨rfl, rfl⟩
theorem notTree_src (v0 : Value) (t : List Bool) (v : Bool) (hv : isTreeB t = v) (w : World) (h : Src 1 w v0 t.length (t.map .bool)) (hn : t.length ≤ 4194304) :
    Calls Try.prog 92 #[v0] w fun e w' => e = .returned (.bool (!v)) ∧ w = w' := by
  rcases h.2 with ⟨rfl, h0⟩ | ⟨b, off, c, rfl, hs⟩
  · have ht : t = [] := List.eq_nil_of_length_eq_zero h0
    have HF : Hid (v = false) := by unfold Hid; rw [← hv, ht]; rfl
    clear h0 ht hv h hn
    go_enter Try.func92, Try.ntmps92
    go_wp2_with fail
    refine (isTree_nil _).mono ?_
    rintro e w' ⟨rfl, rfl⟩
    go_wp2_with fail
    go_ret
    exact ⟨ret_bool (by rw [HF.out]; rfl), rfl⟩
  · exact notTree_any b off t.length c t v hv w hs rfl hn

set_option maxRecDepth 100000 in
theorem indexNotTree_src (g off m c : Nat) (vs : List Value) (ts : List (List Bool)) (w : World) (hs : Sl w g off vs) (hv : Srcc w vs ts) (hm : ts.length = m) (hl : m ≤ 1048576) (hb : ∀ t ∈ ts, t.length ≤ 4194304) :
    Calls Try.prog 111 #[.slice (some ⟨g, off, none⟩) m c, .func (.func 92) #[] #[]] w fun e w' =>
      (∃ z : Int, e = .returned (.int .i64 z) ∧ (decide (0 ≤ z) = !(ts.all isTreeB))) ∧ w = w' := by
  have HM := Lib.hid hm
  have HBD := Lib.hid hb
  clear hm hb
  go_enter Try.func111, Try.ntmps111
  go_wp2_with fail
  go_loop [8] (fun i => ∃ k : Nat, k ≤ m ∧ i = .int .i64 k ∧ Hid (∀ j t, j < k → ts[j]? = some t → isTreeB t = true)) (fun i => m - (intOf i).toNat)
  case atStart => exact ⟨0, Nat.zero_le _, rfl, by intro j t hj; omega⟩
  case round =>
    obtain ⟨k, hk, rfl, HR⟩ := hrel
    by_cases hlt : k < m
    · obtain ⟨v, hv1⟩ : ∃ v, vs[k]? = some v := ⟨_, List.getElem?_eq_getElem (by have := hv.1; have := HM.out; omega)⟩
      obtain ⟨t, ht1⟩ : ∃ t, ts[k]? = some t := ⟨_, List.getElem?_eq_getElem (by have := HM.out; omega)⟩
      have hsrc := Lib.hid (hv.2 k v t hv1 ht1).1
      have hn := HBD.out t (List.mem_of_getElem? ht1)
      have hca := hs.at hv1
      have HT := Lib.hid ht1
      clear hv1 ht1
      rcases Bool.eq_false_or_eq_true (isTreeB t) with hb | hb
      · have HB := Lib.hid hb; clear hb
        go_wp2_with (go_at_call 92; refine (notTree_src v t true HB.out _ hsrc.out hn).mono ?_; rintro e w' ⟨rfl, rfl⟩)
        go_round
        case rel => exact ⟨k + 1, by omega, by go_num, by
          intro j t' hj ht'
          by_cases ej : j = k
          · subst ej
            have h2 := HT.out
            rw [ht'] at h2; injection h2 with h2; subst h2; exact HB.out
          · exact HR.out j t' (by omega) ht'⟩
        case measure => simp [intOf]; omega
      · have HB := Lib.hid hb; clear hb
        go_wp2_with (go_at_call 92; refine (notTree_src v t false HB.out _ hsrc.out hn).mono ?_; rintro e w' ⟨rfl, rfl⟩)
        go_ret
        refine ⟨⟨_, rfl, ?_⟩, rfl⟩
        have hf : ts.all isTreeB = false := by
          rw [Bool.eq_false_iff]; intro hall
          have := List.all_eq_true.1 hall t (List.mem_of_getElem? HT.out)
          rw [HB.out] at this; cases this
        rw [hf]; simp
    · go_wp2_with fail
      go_ret
      refine ⟨⟨_, rfl, ?_⟩, rfl⟩
      have hf : ts.all isTreeB = true := by
        rw [List.all_eq_true]
        intro t ht
        obtain ⟨j, hj⟩ := List.getElem?_of_mem ht
        exact HR.out j t (by have := HM.out; have := (List.getElem?_eq_some_iff.1 hj).1; omega) hj
      rw [hf]; rfl

theorem areTrees_src (g off m c : Nat) (vs : List Value) (ts : List (List Bool)) (r : Bool) (hr : ts.all isTreeB = r) (w : World) (hs : Sl w g off vs) (hv : Srcc w vs ts) (hm : ts.length = m) (hl : m ≤ 1048576) (hb : ∀ t ∈ ts, t.length ≤ 4194304) :
    Calls Try.prog 59 #[.slice (some ⟨g, off, none⟩) m c] w fun e w' => e = .returned (.bool r) ∧ w = w' := by
  have HM := Lib.hid hm; have HR := Lib.hid hr; have HBD := Lib.hid hb
  clear hm hr hb
  have hcont : Calls Try.prog 91 #[.slice (some ⟨g, off, none⟩) m c, .func (.func 92) #[] #[]] w fun e w' => e = .returned (.bool (!r)) ∧ w = w' := by
    go_enter Try.func91, Try.ntmps91
    go_wp2_with fail
    refine (indexNotTree_src g off m c vs ts w hs hv HM.out hl HBD.out).mono ?_
    rintro e w' ⟨⟨z, rfl, hz⟩, rfl⟩
    rw [HR.out] at hz
    go_wp2_with fail
    go_ret
    exact ⟨ret_bool (by first | exact hz | simpa using hz), rfl⟩
  have HC := Lib.hid hcont
  clear hcont
  go_enter Try.func59, Try.ntmps59
  go_wp2_with fail
  refine HC.out.mono ?_
  rintro e w' ⟨rfl, rfl⟩
  go_wp2_with fail
  go_ret
  exact ⟨ret_bool (by simp), rfl⟩

theorem infoTreePS : (Try.prog.info? 69).map (fun i => (i.zero, i.size, i.bytes)) = some (some (.pointer none), 1, 8) := by kernel_rfl

/-- Pointers that lead to trees. -/
def TrPs (w : World) (ps : List (Option Addr)) (σ : List T) : Prop := ps.length = σ.length ∧ ∀ (v : Nat) (t : T) (p : Option Addr), σ[v]? = some t → ps[v]? = some p → Tr w.heap.size w t p
theorem TrPs.nil (w : World) : TrPs w [] [] := ⟨rfl, fun v t p h => by simp at h⟩
theorem TrPs.snoc {w : World} {ps : List (Option Addr)} {σ : List T} {t : T} {p : Option Addr} (h : TrPs w ps σ) (ht : Tr w.heap.size w t p) : TrPs w (ps ++ [p]) (σ ++ [t]) := by
  refine ⟨by rw [List.length_append, List.length_append, h.1]; rfl, fun v t' p' h1 h2 => ?_⟩
  rcases Nat.lt_or_ge v σ.length with hl | hl
  · rw [List.getElem?_append_left hl] at h1
    rw [List.getElem?_append_left (by rw [h.1]; exact hl)] at h2
    exact h.2 v t' p' h1 h2
  · rw [List.getElem?_append_right hl] at h1
    rw [List.getElem?_append_right (by rw [h.1]; exact hl), h.1] at h2
    cases hv : v - σ.length with
    | zero => rw [hv] at h1 h2; simp at h1 h2; subst h1; subst h2; exact ht
    | succ k => rw [hv] at h1; simp at h1
theorem TrPs.step {w w' : World} {ps : List (Option Addr)} {σ : List T} (h : TrPs w ps σ) (hb : Below w.heap.size w w') : TrPs w' ps σ := ⟨h.1, fun v t p h1 h2 => (h.2 v t p h1 h2).step hb⟩
/-- Behind an append onto a row of pointers. -/
theorem TrPs.grown {w w' : World} {lo g n c : Nat} {us : List Value} {ps : List (Option Addr)} {σ : List T} (h : TrPs w ps σ) (own : w.ownsRow lo 69 1 (.slice (some ⟨g, 0, none⟩) n c) n us) (hg : w.grownBy w' (some g)) : TrPs w' ps σ := by
  refine ⟨h.1, fun v t p h1 h2 => ?_⟩
  rcases own.2 with ⟨h', _⟩ | ⟨g', cap', cur, hv', _, hh, _⟩
  · cases h'
  · injection hv' with a1 a2 a3
    injection a1 with a1
    injection a1 with a1
    subst a1
    exact ((h.2 v t p h1 h2).grown hg hh (by decide)).mono hg.size

set_option maxRecDepth 100000 in
set_option maxHeartbeats 2000000 in
theorem storeTrees_no (g off m c : Nat) (vs : List Value) (st : List (List Bool)) (hr : storeOk st = false) (w : World) (hs : Sl w g off vs) (hv : Srcc w vs st) (hm : st.length = m) (hl : m ≤ 1048576) (hb : ∀ t ∈ st, t.length ≤ 4194304) :
    Calls Try.prog 32 #[.slice (some ⟨g, off, none⟩) m c] w fun e w' => e = .returned (.tuple #[.slice none 0 0, .bool false]) ∧ w = w' := by
  by_cases h6 : m = 6
  rotate_left
  · have hne : ((m : Int) != 6) = true := by simp; omega
    clear hr h6
    go_enter Try.func32, Try.ntmps32
    go_wp2_with fail
    go_ret2
    exact ⟨rfl, rfl⟩
  have hall : st.all isTreeB = false := by unfold storeOk at hr; rw [decide_eq_true (by omega), Bool.true_and] at hr; exact hr
  have HC := Lib.hid (areTrees_src g off m c vs st false hall w hs hv hm hl hb)
  subst h6
  clear hr hall hs hv hm hl hb
  go_enter Try.func32, Try.ntmps32
  go_wp2_with fail
  refine HC.out.mono ?_
  rintro e w' ⟨rfl, rfl⟩
  go_wp2_with fail
  go_ret2
  exact ⟨rfl, rfl⟩

set_option maxRecDepth 100000 in
set_option maxHeartbeats 4000000 in
theorem storeTrees_yes (g off m c : Nat) (vs : List Value) (st : List (List Bool)) (σ : List T) (hr : storeOk st = true) (hσ : st = σ.map T.enc) (w : World) (hs : Sl w g off vs) (hv : Srcc w vs st) (hm : st.length = m) (hn : ∀ t ∈ σ, t.nodes ≤ 2000) :
    Calls Try.prog 32 #[.slice (some ⟨g, off, none⟩) m c] w fun e w' => ∃ g' c' ps, e = .returned (.tuple #[.slice (some ⟨g', 0, none⟩) m c', .bool true]) ∧ StT w' g' 0 σ ps ∧ Below w.heap.size w w' := by
  obtain ⟨h6, hall⟩ : m = 6 ∧ st.all isTreeB = true := by
    unfold storeOk at hr
    rw [Bool.and_eq_true, decide_eq_true_eq] at hr
    exact ⟨by omega, hr.2⟩
  have hbd : ∀ t ∈ st, t.length ≤ 4194304 := by
    intro t ht
    have := ((isTree_iff t).1 (List.all_eq_true.1 hall t ht)).1
    omega
  have HC := Lib.hid (areTrees_src g off m c vs st true hall w hs hv hm (by omega) hbd)
  subst h6
  have HSG := Lib.hid hσ
  have HL : Hid (σ.length = 6) := by unfold Hid; rw [hσ, List.length_map] at hm; exact hm
  have HSN := Lib.hid hn
  have HV := Lib.hid hv
  have hown0 : Hid ((w.alloc (.cells #[] 69)).ownsRow w.heap.size 69 1 (.slice (some ⟨w.heap.size, 0, none⟩) 0 0) 0 []) := World.ownsRow_made _ #[] 0 (by simp) (by simp [maxLen]) rfl
  have hb0 := Lib.hid (laid_below w (.cells #[] 69))
  clear hr hall hbd hσ hm hn hv
  go_enter Try.func32, Try.ntmps32
  go_wp2_with fail
  refine HC.out.mono ?_
  rintro e w' ⟨rfl, rfl⟩
  go_wp2_with fail
  go_loopw [4, 18] (fun v i wr => ∃ (k : Nat) (ps : List (Option Addr)) (g1 c1 : Nat), k ≤ 6 ∧ i = .int .i64 k ∧ v = .slice (some ⟨g1, 0, none⟩) k c1 ∧ Hid (TrPs wr ps (σ.take k)) ∧ Hid (wr.ownsRow w.heap.size 69 1 (.slice (some ⟨g1, 0, none⟩) k c1) k (ps.map Value.pointer)) ∧ Hid (Below w.heap.size w wr)) (fun _ i _ => 6 - (intOf i).toNat)
  case atStart => exact ⟨0, [], _, 0, Nat.zero_le _, rfl, rfl, TrPs.nil _, hown0, hb0⟩
  case round =>
    obtain ⟨k, ps, g1, c1, hk, rfl, rfl, HT, HO, HB⟩ := hrel
    clear hown0 hb0
    by_cases hlt : k < 6
    · obtain ⟨t, ht⟩ : ∃ t, σ[k]? = some t := ⟨_, List.getElem?_eq_getElem (by have := HL.out; omega)⟩
      obtain ⟨v, hv1⟩ : ∃ v, vs[k]? = some v := ⟨_, List.getElem?_eq_getElem (by have := HV.out.1; rw [HSG.out, List.length_map] at this; have := HL.out; omega)⟩
      have hca := (hs.below' HB.out).at hv1
      obtain ⟨hsrc, A, cc, hve, _⟩ := HV.out.2 k v t.enc hv1 (by rw [HSG.out, List.getElem?_map, ht]; rfl)
      rw [T.length_enc] at hsrc hve
      have hp := t.nodes_pos
      have hn2 := HSN.out t (List.mem_of_getElem? ht)
      obtain ⟨b9, o9, c9, hv9, hs9⟩ : ∃ b o c, v = .slice (some ⟨b, o, none⟩) t.nodes c ∧ Sl w b o (t.enc.map .bool) := by
        rcases hsrc.2 with ⟨_, h0⟩ | ⟨b, o, c', h1, h2⟩
        · omega
        · exact ⟨b, o, c', h1, h2⟩
      clear hve
      subst hv9
      have HS9 := Lib.hid (hs9.below' HB.out)
      have HTK : Hid (σ.take (k + 1) = σ.take k ++ [t]) := by unfold Hid; rw [List.take_add_one, ht]; rfl
      obtain ⟨n9, hn9⟩ : ∃ n9, t.nodes = n9 := ⟨_, rfl⟩
      rw [hn9] at hca hn2
      have HN9 := Lib.hid hn9
      have hltI : (k : Int) < 6 := by omega
      clear ht hv1 hsrc hs9 hn9 hp
      go_wp2_with fail
      refine (treeOf_any b9 o9 n9 c9 t wr HS9.out HN9.out (by omega)).mono ?_
      rintro e w1 ⟨p, rfl, ht1, b1⟩
      have HB1 := Lib.hid (below_step HB.out b1)
      have HP1 := Lib.hid ((HT.out.step b1).snoc ht1)
      have hown := own_below' HO.out b1
      have hbz := HB1.out.size
      clear b1 ht1 hca
      go_wp2_with (at_builtin; refine wpList_appg rfl _ _ _ rfl Try.underlying66 infoTreePS rfl (by omega) w.heap.size w1 hown hbz rfl 1 #[.pointer p] rfl (laid_below _ _) (heap_alloc_new _ _) rfl (by simp [Value.oneCell']) (by omega) (by unfold maxLen; omega) (by omega) ?_; intro g2 cap2 w2 hown2 hg2; have HP2 := Lib.hid (HP1.out.grown hown hg2); have HB2 := Lib.hid (grown_below HB1.out hown (Nat.le_refl _) hg2); have HO2 := Lib.hid hown2; clear hown2 hg2 hown)
      go_roundw
      case rel =>
        refine ⟨k + 1, ps ++ [p], g2, cap2, by omega, by go_num, by first | rfl | go_num, by rw [HTK.out]; exact HP2, ?_, HB2⟩
        unfold Hid
        rw [List.map_append]
        exact HO2.out
      case measure => simp [intOf]; omega
    · obtain rfl : k = 6 := by omega
      have hp := HT.out
      rw [List.take_of_length_le (by have := HL.out; omega)] at hp
      have FIN : Hid (StT wr g1 0 σ ps) := ⟨sl_of_own HO.out, hp.1, hp.2⟩
      have HB3 := HB.out
      clear hlt hp
      go_wp2_with fail
      go_ret2
      exact ⟨g1, c1, ps, rfl, FIN.out, HB3⟩

theorem catch_panicking (p q : Addr) (older : List PanicEntry) (pv : Value) (u : TypeId) (w : World) (x y : Value) (hp : w.cell? p = some x) (hq : w.cell? q = some y) (hzp : w.frozen? p = false) (hzq : w.frozen? q = false) (hne : p ≠ q) :
    CallsD Try.prog 34 #[.pointer (some p), .pointer (some q)] (.panicking ({ v := .iface u pv, recovered := false } :: older)) w fun e u' w' =>
      e = .returned (.tuple #[]) ∧ u' = .panicking ({ v := .iface u pv, recovered := true } :: older) ∧ w' = (w.setCell p (.slice none 0 0)).setCell q (.int .i64 5) := by
  have hq2 : (w.setCell p (.slice none 0 0)).cell? q = some y := by rw [World.cell?_setCell_other _ _ _ _ hne]; exact hq
  refine callsD_of_wpS Try.func34 rfl fun c₀ cs hu => ?_
  apply wpS_seq
  apply wpS_region
  simp [wpOpsS, go_sem, recoverD, hu, Try.ntmps34, Exit.thenS]
  refine wpS_cond (t := true) (by simp [Act.eval, Array.replicate]) ?_
  simp only [if_true]
  apply wpS_region
  simp [wpOpsS, go_sem, hp, hzp, hq2, hzq, bodyPostS, results, Try.results34]

theorem catch_idle (p q : Addr) (w : World) :
    CallsD Try.prog 34 #[.pointer (some p), .pointer (some q)] .returning w fun e u' w' => e = .returned (.tuple #[]) ∧ u' = .returning ∧ w' = w := by
  refine callsD_of_wpS Try.func34 rfl fun c₀ cs hu => ?_
  apply wpS_seq
  apply wpS_region
  simp [wpOpsS, go_sem, recoverD, hu, Try.ntmps34, Exit.thenS]
  refine wpS_cond (t := false) (by simp [Act.eval, Array.replicate]) ?_
  simp only [Bool.false_eq_true, if_false]
  refine wpS_of_wp (wp_skip ?_)
  cases c₀
  simp_all [bodyPostS, results, Try.results34]
end Go.Proofs.Ytgcedfpjgdeakaa
