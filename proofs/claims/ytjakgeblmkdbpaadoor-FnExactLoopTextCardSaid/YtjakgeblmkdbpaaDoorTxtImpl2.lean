/- LoopText, the program's and the reference's. -/
import Derived.Test.YtjakgeblmkdbpaaDoorTxtImpl
import Derived.Test.YtjakgeblmkdbpaaDoorTxtSpec
namespace Go.Proofs.YtjakgeblmkdbpaaDoor
open Go.RowKit
set_option linter.all false

theorem textsL_len (N : Nat) : ∀ l : List R3, l.length ≤ N → (textsL l).length ≤ l.length := by
  induction N with
  | zero =>
    intro l h
    have : l = [] := List.length_eq_zero_iff.1 (by omega)
    subst this
    rw [textsL_nil]; simp
  | succ N ih =>
    intro l h
    cases l with
    | nil => rw [textsL_nil]; simp
    | cons x l =>
      rw [List.length_cons] at h
      have := ih (l.drop (bodyLen x)) (by rw [List.length_drop]; omega)
      rw [List.length_drop] at this
      rw [textsL_cons, List.length_cons, List.length_cons]
      omega
/-- What a run of bodies has made. -/
def TxInv (w : World) (lo gl : Nat) (xs : List R3) (k : Nat) (W : World) : Prop := ∃ V ts, TxSt w lo gl V ts W ∧ ts ++ textsL (xs.drop k) = textsL xs
theorem TxInv.mono {w : World} {lo gl : Nat} {xs : List R3} {k : Nat} {W W' : World} (h : TxInv w lo gl xs k W) (hb : Below W.heap.size W W') : TxInv w lo gl xs k W' := by
  obtain ⟨V, ts, h1, h2⟩ := h
  exact ⟨V, ts, h1.below hb, h2⟩
theorem joinNone (a : Option Addr) (c : Nat) (sep : ByteArray) (w : World) : Calls Tryd.prog 58 #[.slice a 0 c, .string sep] w fun e w' => e = .returned (.string ⟨#[]⟩) ∧ w' = w := Any.strings_Join_none Tryd.layJoin Tryd.joinExtra a c sep w
theorem join_texts (lo : Nat) (ts : List (List UInt8)) (V : Value) (n : Nat) (w : World) (h : w.ownsRow lo 9 1 V n (ts.map strCell)) (hn : n ≤ 1000) (hl : (Lib.join ts [59]).length ≤ 100000) :
    Calls Tryd.prog 58 #[V, .string ⟨#[59]⟩] w fun e w' => e = .returned (.string ⟨(Lib.join ts [59]).toArray⟩) ∧ Below w.heap.size w w' := by
  have hlen : ts.length = n := by have := h.1; rw [List.length_map] at this; omega
  by_cases h0 : n = 0
  · subst h0
    have : ts = [] := List.length_eq_zero_iff.1 hlen
    subst this
    obtain ⟨A, c, rfl⟩ := own_form h
    refine (joinNone A c _ w).mono ?_
    rintro e w' ⟨rfl, rfl⟩
    exact ⟨rfl, Below.refl _ _⟩
  · rcases h.2 with ⟨_, h1⟩ | ⟨g, cap, cur, rfl, _, hg, hcap, _⟩
    · exact absurd h1 h0
    · have hs := sl_of_own h
      have hmap : (ts.map (fun t : List UInt8 => (⟨t.toArray⟩ : ByteArray))).map (·.data.toList) = ts := by
        rw [List.map_map]
        conv => rhs; rw [← List.map_id ts]
        apply List.map_congr_left
        intro t _
        simp
      have hsep : (⟨#[59]⟩ : ByteArray).data.toList = [59] := rfl
      refine (strings_Join_any g 0 n cap (ts.map fun t => ⟨t.toArray⟩) ⟨#[59]⟩ w (by rw [List.length_map]; exact hlen) (fun j x hx => ?_) (heap_lt hg) (by omega) hcap (by rw [hmap, hsep]; omega)).mono ?_
      · refine hs.at ?_
        rw [List.getElem?_map] at hx ⊢
        cases ht : ts[j]? with
        | none => rw [ht] at hx; cases hx
        | some t =>
          rw [ht] at hx
          have e : x = ⟨t.toArray⟩ := by simpa using hx.symm
          subst e; rfl
      · rintro e w' ⟨rfl, hb⟩
        rw [hmap, hsep]
        exact ⟨rfl, hb⟩

set_option maxRecDepth 100000 in
set_option maxHeartbeats 2000000 in
theorem loopText_any (n : Nat) : ∀ (A : Option Addr) (c d : Nat) (xs : List R3) (w : World), Args 3 w A n (rows R3.vs xs) → n ≤ 150 → n ≤ c → vl d xs = true →
      Calls Tryd.prog 33 #[.slice A n c] w fun e w' => e = .returned (.string ⟨(textL xs).toArray⟩) ∧ Below w.heap.size w w' := by
  induction n using Nat.strongRecOn with
  | ind n ih =>
  intro A c d xs w ha hn hc hv
  have IH := Lib.hid ih; clear ih
  have HV := Lib.hid hv; clear hv
  have HA := Lib.hid ha; clear ha
  have HL : Hid (xs.length = n) := by have := HA.out.1; rw [rows_len R3.vs_len] at this; unfold Hid; omega
  obtain ⟨w1, HW, hB1, x1, y1⟩ := al2 w (.cells #[] 9) (.cells #[.slice (some ⟨w.heap.size, 0, none⟩) 0 0] 67)
  have HM0 : Hid (TxInv w w.heap.size (w.heap.size + 1) xs 0 w1) := by
    refine ⟨_, [], ⟨?_, y1, hB1, Nat.le_refl _, hB1.size, by omega⟩, by rw [List.drop_zero]; rfl⟩
    have := own_of_block (n := 0) (cap := 0) (s := 1) (xs := []) (base := w.heap.size) x1 (Nat.le_refl _) rfl (Nat.le_refl _) (Nat.zero_le _)
    simpa using this
  have HF1 : Hid (∀ (k : Nat) (x : R3) (m : Nat) (A' : Option Addr) (c' : Nat) (W : World), xs[k]? = some x → bodyLen x = m → vl d (xs.drop k) = true → k + 1 + m ≤ n → m ≤ c' → Args 3 W A' m (rows R3.vs ((xs.drop (k + 1)).take m)) → TxInv w w.heap.size (w.heap.size + 1) xs k W →
      Calls Tryd.prog 56 (#[.agg #[.int .i64 x.a, .int .i64 x.b, .int .i64 x.c], .slice A' m c'] ++ #[.pointer (some ⟨w.heap.size + 1, 0, none⟩)]) W fun e w' => e = .returned (.tuple #[]) ∧ TxInv w w.heap.size (w.heap.size + 1) xs (k + 1 + m) w') := by
    intro k x m A' c' W hx hm hvk hkm hmc ha' hinv
    obtain ⟨V, ts, h1, h2⟩ := hinv
    have hvk' := hvk
    rw [drop_at hx] at hvk'
    obtain ⟨hb0, hb15, hkind⟩ := vl_kind hvk'
    obtain ⟨_, _, hv3⟩ := vl_step hx hvk
    rw [hm] at hv3
    have hvy : vl (d - 1) ((xs.drop (k + 1)).take m) = true := by
      cases hl : isLp x with
      | true => exact (hv3 hl).1
      | false =>
        have : m = 0 := by rw [← hm, bodyLen_no hl]
        rw [this, List.take_zero, vl_nil]
    have htl : ts.length ≤ 1000 := by
      have h3 := congrArg List.length h2
      have h4 := textsL_len _ xs (Nat.le_refl _)
      have := HL.out
      rw [List.length_append] at h3
      omega
    have hbl := textL_len hvy
    rw [List.length_take, List.length_drop] at hbl
    refine (txtAdd_any x m c' (w.heap.size + 1) w.heap.size A' V ts (textL ((xs.drop (k + 1)).take m)) w W h1 htl ⟨hb0, hb15⟩ (by omega) hkind (fun W' hW' => IH.out m (by omega) A' c' (d - 1) _ W' (ha'.below hW') (by omega) hmc hvy)).mono ?_
    rintro e w' ⟨rfl, V', h5⟩
    refine ⟨rfl, V', _, h5, ?_⟩
    rw [← h2, drop_at hx, textsL_cons, hm, List.drop_drop, List.append_assoc]
    rw [show k + 1 + m = k + 1 + m from rfl]
    rfl
  have HI1 : Hid (∀ k W W', TxInv w w.heap.size (w.heap.size + 1) xs k W → Below W.heap.size W W' → TxInv w w.heap.size (w.heap.size + 1) xs k W') := fun k W W' h hb => h.mono hb
  have HA1 : Hid (∀ k W, TxInv w w.heap.size (w.heap.size + 1) xs k W → Args 3 W A n (rows R3.vs xs)) := fun k W ⟨_, _, h, _⟩ => HA.out.below h.frame
  have HE := Lib.hid (enters_of' (P := Tryd.prog) Tryd.func56 (by kernel_rfl) rfl)
  have HBD := Lib.hid (bodies_any 56 #[.pointer (some ⟨w.heap.size + 1, 0, none⟩)] d (TxInv w w.heap.size (w.heap.size + 1) xs) A n c xs w1 (HA.out.below hB1) (by omega) hc HV.out HE.out HI1 HA1 HF1 HM0.out)
  clear x1 y1 hB1 HM0 HF1 HI1 HA1
  go_enter Tryd.func33, Tryd.ntmps33
  go_wp2_with fail
  rw [← HW.out]
  refine HBD.out.mono ?_
  rintro e w2 ⟨rfl, hinv⟩
  obtain ⟨V, ts, h1, h2⟩ := hinv
  rw [List.drop_of_length_le (by have := HL.out; omega), textsL_nil, List.append_nil] at h2
  subst h2
  have p0 : w2.cell? ⟨w.heap.size + 1, 0, none⟩ = some V := by rw [cell_of_heap h1.var]; rfl
  have HJ := Lib.hid (join_texts w.heap.size (textsL xs) V (textsL xs).length w2 h1.row (by have := textsL_len _ xs (Nat.le_refl _); have := HL.out; omega) (by have := textL_len HV.out; have := HL.out; unfold textL at *; omega))
  have HF := Lib.hid h1.frame
  clear h1 HBD
  go_wp2_with fail
  refine HJ.out.mono ?_
  rintro e w3 ⟨rfl, hb⟩
  go_wp2_with fail
  go_ret
  exact ⟨rfl, below_step HF.out hb⟩

theorem validL_parts {xs : List R3} (h : validL xs = true) : xs.length ≤ 150 ∧ vl 7 xs = true := by
  unfold validL at h; rw [Bool.and_eq_true] at h; exact ⟨of_decide_eq_true h.1, h.2⟩

set_option maxRecDepth 100000 in
theorem implLoopText_any (b off n c : Nat) (xs : List R3) (w : World) (hs : Sl w b off (rows R3.vs xs)) (hl : xs.length = n) (hn : n ≤ 1048576) (hc : n ≤ c) (hf : ∀ x ∈ xs, x.wf) :
    Calls Tryd.prog 10 #[.slice (some ⟨b, off, none⟩) n c] w fun e w' => e = .returned (.string ⟨(loopTextOf xs).toArray⟩) ∧ Below w.heap.size w w' := by
  have ha := Args.of_sl hs (n := n) (by rw [rows_len R3.vs_len, hl])
  have HA := Lib.hid ha
  clear hs hf ha
  rcases Bool.eq_false_or_eq_true (validL xs) with hv | hv
  rotate_left
  · have HV := Lib.hid hv; have HF := Lib.hid (loopTextOf_no hv)
    clear hv
    go_enter Tryd.func10, Tryd.ntmps10
    go_wp2_with fail
    refine (implValidLoop_is b off n c xs false HV.out _ HA.out hn hc).mono ?_
    rintro e w1 ⟨rfl, hb⟩
    go_wp2_with fail
    go_ret
    exact ⟨by rw [HF.out]; rfl, hb⟩
  · have HV := Lib.hid hv; have HF := Lib.hid (loopTextOf_yes hv); have HP := Lib.hid (validL_parts hv)
    have HL := Lib.hid hl
    clear hv hl
    go_enter Tryd.func10, Tryd.ntmps10
    go_wp2_with fail
    refine (implValidLoop_is b off n c xs true HV.out _ HA.out hn hc).mono ?_
    rintro e w1 ⟨rfl, hb⟩
    go_wp2_with fail
    refine (loopText_any n _ c 7 xs _ (HA.out.below hb) (by have := HP.out.1; have := HL.out; omega) hc HP.out.2).mono ?_
    rintro e w2 ⟨rfl, hb2⟩
    go_wp2_with fail
    go_ret
    exact ⟨by rw [HF.out]; rfl, below_step hb hb2⟩

set_option maxRecDepth 100000 in
theorem specLoopText_any (b off n c : Nat) (xs : List R3) (w : World) (hs : Sl w b off (rows R3.vs xs)) (hl : xs.length = n) (hn : n ≤ 1048576) (hc : n ≤ c) (hf : ∀ x ∈ xs, x.wf) :
    Calls Tryd.prog 8 #[.slice (some ⟨b, off, none⟩) n c] w fun e w' => e = .returned (.string ⟨(loopTextOf xs).toArray⟩) ∧ Below w.heap.size w w' := by
  have ha := Args.of_sl hs (n := n) (by rw [rows_len R3.vs_len, hl])
  have HA := Lib.hid ha
  clear hs hf ha
  rcases Bool.eq_false_or_eq_true (validL xs) with hv | hv
  rotate_left
  · have HV := Lib.hid hv; have HF := Lib.hid (loopTextOf_no hv)
    clear hv
    go_enter Tryd.func8, Tryd.ntmps8
    go_wp2_with fail
    refine (l17Is_is b off n c xs false HV.out _ HA.out hn).mono ?_
    rintro e w1 ⟨rfl, hb⟩
    go_wp2_with fail
    go_ret
    exact ⟨by rw [HF.out]; rfl, hb⟩
  · have HV := Lib.hid hv; have HP := Lib.hid (validL_parts hv)
    have HF : Hid (loopTextOf xs = textL (seg xs 0 n)) := by unfold Hid; rw [loopTextOf_yes hv, ← hl, seg_all]
    have HVS : Hid (vl 7 (seg xs 0 n) = true) := by unfold Hid; rw [← hl, seg_all]; exact (validL_parts hv).2
    have HL := Lib.hid hl
    clear hv hl
    go_enter Tryd.func8, Tryd.ntmps8
    go_wp2_with fail
    refine (l17Is_is b off n c xs true HV.out _ HA.out hn).mono ?_
    rintro e w1 ⟨rfl, hb⟩
    go_wp2_with fail
    refine (l17Show_any n _ n c 0 n 7 xs _ (HA.out.below hb) (by have := HP.out.1; have := HL.out; omega) (by omega) (by omega) (by omega) HVS.out).mono ?_
    rintro e w2 ⟨rfl, hb2⟩
    go_wp2_with fail
    go_ret
    exact ⟨by rw [HF.out]; rfl, below_step hb hb2⟩
end Go.Proofs.YtjakgeblmkdbpaaDoor
