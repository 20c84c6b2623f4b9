/- Words of the call's own that have an address; steps on a nil word. Plain contracts, no conditions beyond the sizes. -/
import Derived.Test.YtjakgeblmkdbpaaRegsA
import Derived.Test.YtjakgeblmkdbpaaReplaceFirst
namespace Go.Proofs.Ytjakgeblmkdbpaa
open Go.RowKit
set_option linter.all false

theorem own_adr {w : World} {base : Nat} {e : TypeId} {size n : Nat} {v : Value} {xs : List Value} (h : w.ownsRow base e size v n xs) (hne : v ≠ .slice none 0 0) : ∃ g d, v = .slice (some ⟨g, 0, none⟩) n d ∧ n ≤ d := by
  rcases h.2 with ⟨h0, _⟩ | ⟨g, cap, cur, h0, _, _, h1, _⟩
  · exact absurd h0 hne
  · exact ⟨g, cap, h0, h1⟩
/-- What is owned is nil and empty, or has an address. -/
theorem own_cases {w : World} {base : Nat} {e : TypeId} {size n : Nat} {v : Value} {xs : List Value} (h : w.ownsRow base e size v n xs) : (v = .slice none 0 0 ∧ n = 0) ∨ ∃ g d, v = .slice (some ⟨g, 0, none⟩) n d ∧ n ≤ d := by
  rcases h.2 with ⟨h0, h1⟩ | ⟨g, cap, cur, h0, _, _, h1, _⟩
  · exact .inl ⟨h0, h1⟩
  · exact .inr ⟨g, cap, h0, h1⟩

set_option maxRecDepth 100000 in
theorem cloneA_any (b off n c : Nat) (xs : List Int) (w : World) (hs : Sl w b off (xs.map (Value.int .i64))) (hl : xs.length = n) (hn : n ≤ 1048576) :
    Calls Try.prog 125 #[.slice (some ⟨b, off, none⟩) n c] w fun e w' => ∃ g d, e = .returned (.slice (some ⟨g, 0, none⟩) n d) ∧ w'.ownsRow w.heap.size 2 1 (.slice (some ⟨g, 0, none⟩) n d) n (xs.map (Value.int .i64)) ∧ Below w.heap.size w w' ∧ n ≤ d := by
  have hown0 : (w.alloc (.cells #[] 2)).ownsRow w.heap.size 2 1 (.slice (some ⟨w.heap.size, 0, none⟩) 0 0) 0 [] := own_empty w 2 1
  have hB0 := laid_below w (.cells #[] 2)
  have hsrc1 : Src 1 (w.alloc (.cells #[] 2)) (.slice (some ⟨b, off, none⟩) n c) n (xs.map (.int .i64)) := Src.of_sl (hs.below' hB0) (by simp; omega)
  have HO := Lib.hid (one_ints .i64 xs)
  clear hs hl
  have hnl := run_nil_some Try.underlying25 ⟨b, off, none⟩ n c
  go_enter Try.func125, Try.ntmps125
  go_wp2_with (at_builtin; refine wpList_appx rfl _ _ _ rfl Try.underlying25 infoInt64S rfl (by omega) w.heap.size hown0 hB0.size rfl hsrc1 rfl HO.out (by unfold maxLen; omega) (by omega) ?_; intro v2 w2 hown2 hg2 hnil2; have hB2 := grown_below hB0 hown0 (Nat.le_refl _) hg2; obtain ⟨g2, d2, rfl, hd2⟩ := own_adr hown2 (fun e => by cases (hnil2 e).1); clear hnil2 hown0 hB0 hsrc1 hg2)
  go_ret
  have hown3 : w2.ownsRow w.heap.size 2 1 (.slice (some ⟨g2, 0, none⟩) n d2) n (xs.map (Value.int .i64)) := by simpa using hown2
  exact ⟨g2, d2, by first | rfl | rw [Nat.zero_add], hown3, hB2, by omega⟩

theorem l00OwnA_any (b off n c : Nat) (xs : List Int) (w : World) (hs : Sl w b off (xs.map (.int .i64))) (hl : xs.length = n) (hn : n ≤ 4194304) :
    Calls Try.prog 164 #[.slice (some ⟨b, off, none⟩) n c] w fun e w' => ∃ g d, e = .returned (.slice (some ⟨g, 0, none⟩) n d) ∧ w'.ownsRow w.heap.size 2 1 (.slice (some ⟨g, 0, none⟩) n d) n (xs.map (.int .i64)) ∧ Below w.heap.size w w' ∧ n ≤ d := by
  have HL := Lib.hid hl; clear hl
  have hown0 : (w.alloc (.cells #[] 2)).ownsRow w.heap.size 2 1 (.slice (some ⟨w.heap.size, 0, none⟩) 0 0) 0 [] := World.ownsRow_made w #[] 0 (by simp) (by simp [maxLen]) rfl
  have hB0 := laid_below w (.cells #[] 2)
  have hsrc : Src 1 (w.alloc (.cells #[] 2)) (.slice (some ⟨b, off, none⟩) n c) n (xs.map (.int .i64)) := Src.of_sl (hs.below' hB0) (by have := HL.out; simp; omega)
  go_enter Try.func164, Try.ntmps164
  go_wp2_with (at_builtin; refine wpList_appx rfl (.tmp 3) (.tmp 4) _ rfl Try.underlying25 infoInt64S rfl (by omega) w.heap.size hown0 hB0.size rfl hsrc rfl (one_ints _ _) (by unfold maxLen; omega) (by omega) ?_; intro v2 w2 hown2 hg2 hnil2; have hB2 := grown_below hB0 hown0 (Nat.le_refl _) hg2; obtain ⟨g2, d2, rfl, hd2⟩ := own_adr hown2 (fun e => by cases (hnil2 e).1); clear hnil2 hown0 hB0 hsrc hg2)
  go_ret
  have hown3 : w2.ownsRow w.heap.size 2 1 (.slice (some ⟨g2, 0, none⟩) n d2) n (xs.map (Value.int .i64)) := by simpa using hown2
  exact ⟨g2, d2, by first | rfl | rw [Nat.zero_add], hown3, hB2, by omega⟩

set_option maxRecDepth 100000 in
theorem l03PutA_any (b1 o1 n1 c1 : Nat) (x : List Int) (k m : Nat) (b2 o2 n2 c2 : Nat) (y : List Int) (w : World) (hs1 : Sl w b1 o1 (x.map (.int .i64))) (hl1 : x.length = n1) (hn1 : n1 ≤ 4194304) (hs2 : Sl w b2 o2 (y.map (.int .i64))) (hl2 : y.length = n2) (hn2 : n2 ≤ 4194304) (hk : k + m ≤ n1) (hc : n1 ≤ c1) :
    Calls Try.prog 158 #[.slice (some ⟨b1, o1, none⟩) n1 c1, .int .i64 k, .int .i64 m, .slice (some ⟨b2, o2, none⟩) n2 c2] w fun e w' => ∃ g d, e = .returned (.slice (some ⟨g, 0, none⟩) (n1 - m + n2) d) ∧
      w'.ownsRow w.heap.size 2 1 (.slice (some ⟨g, 0, none⟩) (n1 - m + n2) d) (n1 - m + n2) ((putL x k m y).map (.int .i64)) ∧ Below w.heap.size w w' ∧ n1 - m + n2 ≤ d := by
  have HL1 := Lib.hid hl1; have HL2 := Lib.hid hl2
  clear hl1 hl2
  go_enter Try.func158, Try.ntmps158
  go_wp2_with fail
  refine (l00OwnA_any b1 o1 k _ (x.take k) w (hs1.to k) (by have := HL1.out; simp; omega) (by omega)).mono ?_
  rintro e w1 ⟨g1, d1, rfl, hown1, hB1, -⟩
  have hsrc1 : Src 1 w1 (.slice (some ⟨b2, o2, none⟩) n2 c2) n2 (y.map (.int .i64)) := Src.of_sl (hs2.below' hB1) (by have := HL2.out; simp; omega)
  have hdrop := hs1.from (k + m)
  have HDL : Hid ((x.drop (k + m)).length = n1 - (k + m)) := by have := HL1.out; unfold Hid; simp; omega
  have hlast : ∀ (g3 d3 : Nat) (w3 : World), w3.ownsRow w.heap.size 2 1 (.slice (some ⟨g3, 0, none⟩) (k + n2 + (n1 - (k + m))) d3) (k + n2 + (n1 - (k + m))) (List.map (Value.int .i64) (x.take k) ++ y.map (.int .i64) ++ (x.drop (k + m)).map (.int .i64)) → k + n2 + (n1 - (k + m)) ≤ d3 →
      ∃ g d, Ending.returned (Value.slice (some ⟨g3, 0, none⟩) (k + n2 + (n1 - (k + m))) d3) = .returned (.slice (some ⟨g, 0, none⟩) (n1 - m + n2) d) ∧ w3.ownsRow w.heap.size 2 1 (.slice (some ⟨g, 0, none⟩) (n1 - m + n2) d) (n1 - m + n2) ((putL x k m y).map (.int .i64)) ∧ n1 - m + n2 ≤ d := by
    intro g3 d3 w3 h hd
    have e : k + n2 + (n1 - (k + m)) = n1 - m + n2 := by omega
    rw [e] at h hd ⊢
    refine ⟨g3, d3, rfl, ?_, hd⟩
    unfold putL
    rw [List.map_append, List.map_append]
    exact h
  have HLAST := Lib.hid hlast
  clear hlast
  by_cases hck : c1 = k + m
  · subst hck
    go_wp2_with (first
      | (at_builtin; refine wpList_appx rfl (.tmp 14) (.tmp 15) _ rfl Try.underlying25 infoInt64S rfl (by omega) w.heap.size hown1 hB1.size rfl hsrc1 rfl (one_ints _ _) (by unfold maxLen; omega) (by omega) ?_; intro v2 w2 hown2 hg2 hnil2; obtain ⟨g2, d2, rfl, hd2⟩ := own_adr hown2 (fun e => by cases (hnil2 e).1); have hB2 := grown_below hB1 hown1 (Nat.le_refl _) hg2; have hsrc2 : ∀ c, Src 1 w2 (.slice (some ⟨b1, o1, none⟩) (n1 - (k + m)) c) (n1 - (k + m)) ((x.drop (k + m)).map (.int .i64)) := (by intro c; have e : n1 - (k + m) = 0 := (by omega); have e2 : x.drop (k + m) = [] := List.drop_of_length_le (by have := HL1.out; omega); rw [e, e2]; exact Src.of_sl (Sl.empty (hs1.below' hB2).1) rfl); clear hnil2 hown1 hB1 hsrc1 hg2 hd2)
      | (at_builtin; refine wpList_appx rfl (.tmp 17) (.tmp 22) _ rfl Try.underlying25 infoInt64S rfl (by omega) w.heap.size hown2 hB2.size rfl (hsrc2 _) rfl (one_ints _ _) (by unfold maxLen; omega) (by omega) ?_; intro v3 w3 hown3 hg3 hnil3; obtain ⟨g3, d3, rfl, hd3⟩ := own_adr hown3 (fun e => by cases (hnil3 e).1); have hB3 := grown_below hB2 hown2 (Nat.le_refl _) hg3; clear hnil3 hown2 hB2 hsrc2 hg3))
    go_ret
    obtain ⟨g, d, h1, h2, h3⟩ := HLAST.out _ _ _ hown3 hd3
    have e0 : k + n2 + (n1 - (k + m)) = k + n2 := by omega
    rw [e0] at h1
    exact ⟨g, d, h1, h2, hB3, h3⟩
  · have hc2 : k + m < c1 := by omega
    go_wp2_with (first
      | (at_builtin; refine wpList_appx rfl (.tmp 14) (.tmp 15) _ rfl Try.underlying25 infoInt64S rfl (by omega) w.heap.size hown1 hB1.size rfl hsrc1 rfl (one_ints _ _) (by unfold maxLen; omega) (by omega) ?_; intro v2 w2 hown2 hg2 hnil2; obtain ⟨g2, d2, rfl, hd2⟩ := own_adr hown2 (fun e => by cases (hnil2 e).1); have hB2 := grown_below hB1 hown1 (Nat.le_refl _) hg2; have hsrc2 : ∀ c, Src 1 w2 (.slice (some ⟨b1, o1 + (k + m), none⟩) (n1 - (k + m)) c) (n1 - (k + m)) ((x.drop (k + m)).map (.int .i64)) := (by intro c; exact Src.of_sl (hdrop.below' hB2) (by have := HDL.out; simp at this ⊢; omega)); clear hnil2 hown1 hB1 hsrc1 hg2 hd2)
      | (at_builtin; refine wpList_appx rfl (.tmp 17) (.tmp 22) _ rfl Try.underlying25 infoInt64S rfl (by omega) w.heap.size hown2 hB2.size rfl (hsrc2 _) rfl (one_ints _ _) (by unfold maxLen; omega) (by omega) ?_; intro v3 w3 hown3 hg3 hnil3; obtain ⟨g3, d3, rfl, hd3⟩ := own_adr hown3 (fun e => by cases (hnil3 e).1); have hB3 := grown_below hB2 hown2 (Nat.le_refl _) hg3; clear hnil3 hown2 hB2 hsrc2 hg3))
    go_ret
    obtain ⟨g, d, h1, h2, h3⟩ := HLAST.out _ _ _ hown3 hd3
    exact ⟨g, d, h1, h2, hB3, h3⟩

set_option maxRecDepth 100000 in
theorem begins_nil (b2 o2 m c2 : Nat) (w : World) (hm : m ≤ 4194304) (v : Bool) (hv : decide (m = 0) = v) :
    Calls Try.prog 162 #[.slice none 0 0, .slice (some ⟨b2, o2, none⟩) m c2] w fun e w' => e = .returned (.bool v) ∧ ∃ q, w' = w.drewN q := by
  by_cases h0 : m = 0
  · subst h0
    have HV := Lib.hid hv; clear hv
    have heq : Calls Try.prog 188 #[.slice none 0 0, .slice (some ⟨b2, o2, none⟩) 0 c2] w fun e w' => e = .returned (.bool true) ∧ ∃ q, w' = w.drewN q := by
      go_enter Try.func188, Try.ntmps188
      go_wp2
      go_loopw [5, 13] (fun _ i wr => i = .int .i64 0 ∧ wr = w) (fun _ _ _ => 0)
      case atStart => exact ⟨rfl, rfl⟩
      case round =>
        obtain ⟨rfl, rfl⟩ := hrel
        go_wp2
        go_ret
        exact ⟨rfl, 0, rfl⟩
    have HEQ := Lib.hid heq; clear heq
    go_enter Try.func162, Try.ntmps162
    go_wp2_with fail
    refine HEQ.out.mono ?_
    rintro e w' ⟨rfl, q, rfl⟩
    go_wp2_with fail
    go_ret
    exact ⟨ret_bool (by rw [← HV.out]; rfl), q, rfl⟩
  · have HV : Hid (false = v) := by unfold Hid; rw [← hv, decide_eq_false h0]
    clear hv
    go_enter Try.func162, Try.ntmps162
    go_wp2_with fail
    go_ret
    exact ⟨ret_bool HV.out, 0, rfl⟩

set_option maxRecDepth 100000 in
theorem replaced_nilK (k m n1 : Nat) (b2 o2 n2 c2 : Nat) (y : List Int) (w : World) (hs2 : Sl w b2 o2 (y.map (.int .i64))) (hl2 : y.length = n2) (hn2 : n2 ≤ 1048576) (hk0 : Hid (k = 0)) (hm0 : Hid (m = 0)) (hk : k + m ≤ n1) (hc : n1 ≤ k + m) (hn1 : n1 ≤ 1048576) :
    Calls Try.prog 113 #[.slice none n1 (k + m), .int .i64 k, .int .i64 m, .slice (some ⟨b2, o2, none⟩) n2 c2] w fun e w' => ∃ v, e = .returned v ∧
      w'.ownsRow w.heap.size 2 1 v n2 (y.map (.int .i64)) ∧ Below w.heap.size w w' := by
  have HL2 := Lib.hid hl2
  clear hl2
  have i1 : (k : Int) ≤ ((k + m : Nat) : Int) := by omega
  have i2 : (k : Int) + (m : Int) ≤ (n1 : Int) := by omega
  have i3 : IntKind.i64.wrap ((k : Int) + (m : Int)) = (k : Int) + (m : Int) := IntWalk.i64_in _ (by omega)
  have i4 : 0 ≤ (k : Int) + (m : Int) := by omega
  have i5 : 0 ≤ (k : Int) := by omega
  have i6 : ((k : Int) + (m : Int)).toNat = k + m := by omega
  have i8 : (k : Int) ≤ (k : Int) + (m : Int) := by omega
  have HZ : Hid (n1 - (k + m) = 0) := by unfold Hid; omega
  have HN1 : Hid (n1 = 0) := by have := hk0.out; have := hm0.out; unfold Hid; omega
  have hs2' : Sl w.drew b2 o2 (y.map (.int .i64)) := hs2
  have hBd : Below w.heap.size w w.drew := (Below.refl _ _).drew
  go_enter Try.func113, Try.ntmps113
  go_wp2_with fail
  go_still_tail 9, (by kernel_rfl)
  change wpList _ _ _ _ _ w.drew
  generalize w.drew = wd at *
  go_wp2_with fail
  have e1 := hk0.out
  have e2 := hm0.out
  have e3 := HN1.out
  subst e1; subst e2; subst e3
  refine (joined3_any wd.heap.size 0 [.slice none 0 0, .slice (some ⟨b2, o2, none⟩) n2 c2, .slice none 0 0] [0, n2, 0] [[], y.map (.int .i64), []] _ (sl_laid wd #[.slice none 0 0, .slice (some ⟨b2, o2, none⟩) n2 c2, .slice none 0 0] 25) ?_ (by simp; omega) (by simp)).mono ?_
  · refine ⟨rfl, rfl, fun j v n xs h1 h2 h3 => ?_⟩
    match j, h1, h2, h3 with
    | 0, h1, h2, h3 => simp only [List.getElem?_cons_zero, List.getElem?_cons_succ, Option.some.injEq] at h1 h2 h3; subst h1; subst h2; subst h3; exact ⟨⟨rfl, .inl ⟨rfl, rfl⟩⟩, by simp⟩
    | 1, h1, h2, h3 => simp only [List.getElem?_cons_zero, List.getElem?_cons_succ, Option.some.injEq] at h1 h2 h3; subst h1; subst h2; subst h3; exact ⟨Src.of_sl (hs2'.below' (laid_below wd _)) (by have := HL2.out; simp; omega), one_ints _ _⟩
    | 2, h1, h2, h3 => simp only [List.getElem?_cons_zero, List.getElem?_cons_succ, Option.some.injEq] at h1 h2 h3; subst h1; subst h2; subst h3; exact ⟨⟨rfl, .inl ⟨rfl, rfl⟩⟩, by simp⟩
  rintro e w4 ⟨v, rfl, hown, hB4⟩
  have hB5 := below_step (below_step hBd (laid_below wd _)) hB4
  have hown2 : w4.ownsRow w.heap.size 2 1 v n2 (y.map (.int .i64)) := by
    have h1 : w4.ownsRow w.heap.size 2 1 v [0, n2, 0].sum [[], y.map (Value.int .i64), []].flatten := own_base hown (by have := (laid_below wd _ : Below wd.heap.size wd (wd.alloc (.cells #[.slice none 0 0, .slice (some ⟨b2, o2, none⟩) n2 c2, .slice none 0 0] 25))).size; have := hBd.size; simp at this ⊢; omega)
    simpa using h1
  clear hown hB4
  go_wp2_with fail
  go_ret
  exact ⟨v, rfl, hown2, hB5⟩
theorem replaced_nil (b2 o2 n2 c2 : Nat) (y : List Int) (w : World) (hs2 : Sl w b2 o2 (y.map (.int .i64))) (hl2 : y.length = n2) (hn2 : n2 ≤ 1048576) :
    Calls Try.prog 113 #[.slice none 0 0, .int .i64 0, .int .i64 0, .slice (some ⟨b2, o2, none⟩) n2 c2] w fun e w' => ∃ v, e = .returned v ∧
      w'.ownsRow w.heap.size 2 1 v n2 (y.map (.int .i64)) ∧ Below w.heap.size w w' :=
  replaced_nilK 0 0 0 b2 o2 n2 c2 y w hs2 hl2 hn2 rfl rfl (Nat.le_refl _) (Nat.le_refl _) (by omega)
end Go.Proofs.Ytjakgeblmkdbpaa
