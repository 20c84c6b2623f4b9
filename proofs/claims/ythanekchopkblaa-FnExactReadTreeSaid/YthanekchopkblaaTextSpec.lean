/- The reference's TreeText, and the law's two contracts. -/
import Derived.Test.YthanekchopkblaaTreeText
import Derived.Test.YthanekchopkblaaStr
namespace Go.Proofs.Ythanekchopkblaa
open Go.RowKit
set_option linter.all false

theorem infoInt : (Try.prog.info? 3).map (fun i => (i.zero, i.size, i.bytes)) = some (some (.int .i64 0), 1, 8) := by kernel_rfl
theorem own_own {w : World} {b1 b2 : Nat} {e1 e2 : TypeId} {s1 s2 n1 n2 : Nat} {v1 v2 : Value} {x1 x2 : List Value} (h1 : w.ownsRow b1 e1 s1 v1 n1 x1) (h2 : w.ownsRow b2 e2 s2 v2 n2 x2) (hne : e1 ≠ e2) : v1.ownBlock = none ∨ v1.ownBlock ≠ v2.ownBlock := by
  rcases h1.2 with ⟨rfl, _⟩ | ⟨g, cap, cur, rfl, _, hh, _⟩
  · exact .inl rfl
  · exact .inr (own_ne_block h2 hh (fun e => hne e.symm))
def lenV : Value → Nat
  | .slice _ n _ => n
  | _ => 0
theorem stkV_cons (c : Nat) (r : List Nat) : stkV (c :: r) = stkV r ++ [.int .i64 (c : Int)] := by simp [stkV]
theorem length_stkV (r : List Nat) : (stkV r).length = r.length := by simp [stkV]
theorem closeSt_two (r : List Nat) : closeSt (2 :: r) = ([], 1 :: r) := by simp [closeSt]
theorem closeSt_one (r : List Nat) : closeSt (1 :: r) = (41 :: (closeSt r).1, (closeSt r).2) := by simp [closeSt]

set_option maxRecDepth 100000 in
set_option maxHeartbeats 4000000 in
theorem l21Text_any (b off n c : Nat) (x : T) (w : World) (hs : Sl w b off (x.enc.map .bool)) (hl : x.enc.length = n) (hn : n ≤ 2000) :
    Calls Try.prog 77 #[.slice (some ⟨b, off, none⟩) n c] w fun e w' => e = .returned (.string ⟨x.text.toArray⟩) ∧ Below w.heap.size w w' := by
  have HL := Lib.hid hl
  have htl : x.text.length ≤ 4000 := by have := (text_le x).1; rw [T.length_enc] at hl; omega
  have HT := Lib.hid (txt_text x)
  clear hl
  have hO0 : ((w.alloc (.cells #[] 5)).alloc (.cells #[] 3)).ownsRow w.heap.size 5 1 (.slice (some ⟨w.heap.size, 0, none⟩) 0 0) 0 [] :=
    (World.ownsRow_made w #[] 0 (Nat.le_refl _) (by simp [maxLen]) rfl).alloc _
  have hS0 : ((w.alloc (.cells #[] 5)).alloc (.cells #[] 3)).ownsRow w.heap.size 3 1 (.slice (some ⟨w.heap.size + 1, 0, none⟩) 0 0) 0 [] := by
    have := World.ownsRow_made (base := w.heap.size) (e := 3) (size := 1) (w.alloc (.cells #[] 5)) #[] 0 (by simp) (by simp [maxLen]) rfl
    simpa using this
  have hB0 : Below w.heap.size w ((w.alloc (.cells #[] 5)).alloc (.cells #[] 3)) := below_step (laid_below _ _) (laid_below _ _)
  go_enter Try.func77, Try.ntmps77
  go_wp2_with fail
  go_loopw [3, 4, 5] (fun vo vs i wr => ∃ (k : Nat) (os : List UInt8) (st : List Nat), k ≤ n ∧ i = .int .i64 k ∧ wr.ownsRow w.heap.size 5 1 vo os.length (Lib.byteCells os) ∧ wr.ownsRow w.heap.size 3 1 vs st.length (stkV st) ∧
    Below w.heap.size w wr ∧ Hid (os ++ txt st (x.enc.drop k) = x.text) ∧ st.length ≤ k ∧ Hid (∀ c ∈ st, c = 1 ∨ c = 2)) (fun _ _ i _ => n - (intOf i).toNat)
  case atStart => exact ⟨0, [], [], Nat.zero_le _, rfl, hO0, hS0, hB0, HT.out, by simp, by simp [Hid]⟩
  case round =>
    obtain ⟨k, os, st, hk, rfl, hO, hS, hB, HR, hst, HC⟩ := hrel
    clear hO0 hS0 hB0
    have hol : os.length ≤ 4000 := by have := congrArg List.length HR.out; simp at this; omega
    by_cases hlt : k < n
    · obtain ⟨y, HY, hy⟩ := map_at Value.bool x.enc (k := k) (by have := HL.out; omega)
      have hca := (hs.below' hB).at hy
      clear hy
      cases y with
      | true =>
        have HX := Lib.hid (txt_true (st := st) HY.out)
        have hne := own_own hS hO (by decide)
        go_wp2_with (first
          | (at_builtin; refine wpList_appg rfl (.tmp 19) (.tmp 20) _ rfl Try.underlying96 infoU8 rfl (by omega) w.heap.size wr hO hB.size rfl 1 #[.int .u8 40] rfl (laid_below _ _) (heap_alloc_new _ _) rfl (by simp [Value.oneCell']) (by omega) (by unfold maxLen; omega) (by omega) ?_; intro g1 cap1 w1 hO1 hg1; have hS1 := hS.kept hg1 hne; have hB1 := grown_below hB hO (Nat.le_refl _) hg1; have hne1 := own_own hO1 hS1 (by decide); clear hne)
          | (at_builtin; refine wpList_appg rfl (.tmp 22) (.tmp 23) _ rfl Try.underlying97 infoInt rfl (by omega) w.heap.size w1 hS1 hB1.size rfl 1 #[.int .i64 2] rfl (laid_below _ _) (heap_alloc_new _ _) rfl (by simp [Value.oneCell']) (by omega) (by unfold maxLen; omega) (by omega) ?_; intro g2 cap2 w2 hS2 hg2; have hO2 := hO1.kept hg2 hne1; have hB2 := grown_below hB1 hS1 (Nat.le_refl _) hg2; clear hne1))
        go_roundw
        case rel => exact ⟨k + 1, os ++ [40], 2 :: st, by omega, by go_num, by rw [byteCells_append, List.length_append]; exact hO2, by rw [stkV_cons, List.length_cons]; exact hS2, hB2, by have h1 := HR.out; rw [HX.out] at h1; simpa [Hid] using h1, by simp; omega, by
          intro c hc
          rcases List.mem_cons.1 hc with rfl | hc
          · exact .inr rfl
          · exact HC.out c hc⟩
        case measure => simp [intOf]; omega
      | false =>
        have HX := Lib.hid (txt_false (st := st) HY.out)
        have hne := own_own hS hO (by decide)
        go_wp2_with (at_builtin; refine wpList_appg rfl (.tmp 25) (.tmp 26) _ rfl Try.underlying96 infoU8 rfl (by omega) w.heap.size wr hO hB.size rfl 1 #[.int .u8 46] rfl (laid_below _ _) (heap_alloc_new _ _) rfl (by simp [Value.oneCell']) (by omega) (by unfold maxLen; omega) (by omega) ?_; intro g1 cap1 w1 hO1 hg1; have hS1 := hS.kept hg1 hne; have hB1 := grown_below hB hO (Nat.le_refl _) hg1; clear hne)
        clear hO hS hg1 hB hca
        go_loopw [3, 4] (fun vo vs wr => ∃ (os : List UInt8) (st : List Nat), wr.ownsRow w.heap.size 5 1 vo os.length (Lib.byteCells os) ∧ wr.ownsRow w.heap.size 3 1 vs st.length (stkV st) ∧
          Below w.heap.size w wr ∧ Hid (os ++ ((closeSt st).1 ++ txt (closeSt st).2 (x.enc.drop (k + 1))) = x.text) ∧ st.length ≤ k ∧ Hid (∀ c ∈ st, c = 1 ∨ c = 2)) (fun _ vs _ => lenV vs)
        case atStart => exact ⟨os ++ [46], st, by rw [byteCells_append, List.length_append]; exact hO1, hS1, hB1, by have h1 := HR.out; rw [HX.out] at h1; simpa [Hid] using h1, hst, HC⟩
        case round =>
          clear hO1 hS1 hB1 HR HX hst HC hol
          obtain ⟨os, st, hO, hS, hB, HR, hst, HC⟩ := hrel
          have hol : os.length ≤ 4000 := by have := congrArg List.length HR.out; simp at this; omega
          cases st with
          | nil =>
            obtain ⟨A, c4, rfl⟩ := own_form hS
            go_wp2_with fail
            go_roundw
            case rel => exact ⟨k + 1, os, [], by omega, by go_num, hO, hS, hB, by have h1 := HR.out; simpa [closeSt, Hid] using h1, by simp, by simp [Hid]⟩
            case measure => simp [intOf]; omega
          | cons c0 r =>
            simp only [List.length_cons] at hS hst
            obtain ⟨g, cap, hv, _, _⟩ := hS.form (by omega)
            subst hv
            have hcap : r.length + 1 ≤ cap := by
              rcases hS.2 with ⟨h', _⟩ | ⟨g', cap', cur, hv, _, _, hnc, _⟩
              · cases h'
              · obtain ⟨_, rfl⟩ : g = g' ∧ cap = cap' := by simpa using hv
                exact hnc
            have hne := own_own hO hS (by decide)
            have hg0 : w.heap.size ≤ g := (hS.lt g rfl).1
            rcases HC.out c0 (by simp) with rfl | rfl
            · have hc : wr.cell? ⟨g, r.length, none⟩ = some (.int .i64 1) := by rw [hS.cellAt _ (by omega), stkV_cons]; simp [length_stkV]
              have hf := hS.frozenAt r.length
              obtain ⟨hS1, hg1⟩ := hS.stored r.length (.int .i64 0)
              have hO1 := hO.kept hg1 hne
              have hB1 := hB.setCell (p := ⟨g, r.length, none⟩) hg0 (.int .i64 0)
              have hc1 : (wr.setCell ⟨g, r.length, none⟩ (.int .i64 0)).cell? ⟨g, r.length, none⟩ = some (.int .i64 0) := by rw [hS1.cellAt _ (by omega), List.getElem?_set_self (by rw [stkV_cons]; simp [length_stkV])]
              have hne1 := own_own hS1 hO1 (by decide)
              have HR1 := Lib.hid HR.out
              rw [closeSt_one] at HR1
              clear hO hS hB hne HR hg1
              go_wp2_with (at_builtin; refine wpList_appgh rfl (.tmp 45) (.tmp 46) _ rfl Try.underlying96 infoU8 rfl (by omega) w.heap.size (wr.setCell ⟨g, r.length, none⟩ (.int .i64 0)) wr.heap.size (size_set _ _ _) hO1 hB1.size rfl 1 #[.int .u8 41] rfl (laid_below _ _) (heap_alloc_new _ _) rfl (by simp [Value.oneCell']) (by omega) (by unfold maxLen; omega) (by omega) ?_; intro g2 cap2 w2 hO2 hg2; have hS2 := hS1.kept hg2 hne1; have hB2 := grown_below hB1 hO1 (Nat.le_refl _) hg2; clear hne1)
              have hS3 := own_cut hS2 (m := r.length) (by omega)
              have ecut : ((stkV (1 :: r)).set r.length (.int .i64 0)).take (r.length * 1) = stkV r := by
                rw [stkV_cons, List.set_append_right _ _ (by rw [length_stkV]; exact Nat.le_refl _), Nat.mul_one]
                rw [List.take_append_of_le_length (by rw [length_stkV]; exact Nat.le_refl _), List.take_of_length_le (by rw [length_stkV]; exact Nat.le_refl _)]
              rw [ecut] at hS3
              clear ecut hS2
              go_roundw
              case rel => exact ⟨os ++ [41], r, by rw [byteCells_append, List.length_append]; exact hO2, hS3, hB2, by have h1 := HR1.out; simpa [Hid] using h1, by omega, fun c hc => HC.out c (by simp [hc])⟩
              case measure => simp [lenV]
            · have hc : wr.cell? ⟨g, r.length, none⟩ = some (.int .i64 2) := by rw [hS.cellAt _ (by omega), stkV_cons]; simp [length_stkV]
              have hf := hS.frozenAt r.length
              obtain ⟨hS1, hg1⟩ := hS.stored r.length (.int .i64 1)
              have hO1 := hO.kept hg1 hne
              have hB1 := hB.setCell (p := ⟨g, r.length, none⟩) hg0 (.int .i64 1)
              have hc1 : (wr.setCell ⟨g, r.length, none⟩ (.int .i64 1)).cell? ⟨g, r.length, none⟩ = some (.int .i64 1) := by rw [hS1.cellAt _ (by omega), List.getElem?_set_self (by rw [stkV_cons]; simp [length_stkV])]
              have HR1 := Lib.hid HR.out
              rw [closeSt_two] at HR1
              clear hO hS hB hne HR hg1
              go_wp2_with fail
              go_roundw
              case rel => exact ⟨k + 1, os, 1 :: r, by omega, by go_num, hO1, by
                have e : (stkV (2 :: r)).set r.length (.int .i64 1) = stkV (1 :: r) := by
                  rw [stkV_cons, stkV_cons, List.set_append_right _ _ (by rw [length_stkV]; exact Nat.le_refl _)]
                  simp [length_stkV]
                rw [e] at hS1; exact hS1, hB1, by have h1 := HR1.out; simpa [Hid] using h1, by simp; omega, by
                intro c hc
                rcases List.mem_cons.1 hc with rfl | hc
                · exact .inl rfl
                · exact HC.out c (by simp [hc])⟩
              case measure => simp [intOf]; omega
    · have hkn : k = n := by omega
      have e1 : os = x.text := by
        have h1 := HR.out
        rw [List.drop_of_length_le (by have := HL.out; omega)] at h1
        simpa [txt] using h1
      subst e1
      have hcv := run_str hO
      clear hkn HR
      go_wp2_with fail
      go_ret
      exact ⟨rfl, hB⟩

set_option maxRecDepth 100000 in
theorem specTreeText_any (b off n c : Nat) (t : List Bool) (w : World) (hs : Sl w b off (t.map .bool)) (hl : t.length = n) (hn : n ≤ 1048576) :
    Calls Try.prog 39 #[.slice (some ⟨b, off, none⟩) n c] w fun e w' => e = .returned (.string ⟨(treeTextOf t).toArray⟩) ∧ Below w.heap.size w w' := by
  have HL := Lib.hid hl; clear hl
  rcases Bool.eq_false_or_eq_true (isTreeB t) with h | h
  · obtain ⟨h1, x, hx⟩ := (isTree_iff t).1 h
    have H := Lib.hid h; clear h
    subst hx
    have hnn : x.nodes ≤ 2000 := by rw [← T.length_enc]; exact h1
    have hn2 : n ≤ 2000 := by have := HL.out; omega
    clear h1
    rw [treeTextOf_enc x hnn]
    go_enter Try.func39, Try.ntmps39
    go_wp2_with fail
    refine (l21Is_is b off n c x.enc true H.out _ hs HL.out (by omega)).mono ?_
    rintro e w' ⟨rfl, rfl⟩
    go_wp2_with fail
    refine (l21Text_any b off n c x _ hs HL.out hn2).mono ?_
    rintro e w1 ⟨rfl, hB⟩
    go_wp2_with fail
    go_ret
    exact ⟨rfl, hB⟩
  · have H := Lib.hid h; clear h
    have HE : Hid (treeTextOf t = []) := by unfold Hid treeTextOf; rw [H.out]; rfl
    go_enter Try.func39, Try.ntmps39
    go_wp2_with fail
    refine (l21Is_is b off n c t false H.out _ hs HL.out (by omega)).mono ?_
    rintro e w' ⟨rfl, rfl⟩
    go_wp2_with fail
    go_ret
    rw [HE.out]
    exact ⟨rfl, Below.refl _ _⟩
theorem implTreeText_any (b off n c : Nat) (t : List Bool) (w : World) (hs : Sl w b off (t.map .bool)) (hl : t.length = n) (hn : n ≤ 1048576) :
    Calls Try.prog 40 #[.slice (some ⟨b, off, none⟩) n c] w fun e w' => e = .returned (.string ⟨(treeTextOf t).toArray⟩) ∧ Below w.heap.size w w' :=
  treeTextImpl_any b off n c t w hs hl (by omega)
end Go.Proofs.Ythanekchopkblaa
