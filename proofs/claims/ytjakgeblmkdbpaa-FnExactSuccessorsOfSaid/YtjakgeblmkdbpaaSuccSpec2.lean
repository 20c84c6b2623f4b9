/- SuccessorsOf by the reference: the successors. -/
import Derived.Test.YtjakgeblmkdbpaaSuccSpec1
import Derived.Test.YtjakgeblmkdbpaaApplyRw
import Derived.Test.YtjakgeblmkdbpaaHelpInt64SS
namespace Go.Proofs.Ytjakgeblmkdbpaa
open Go.RowKit
set_option linter.all false

theorem stepRw_codes (r : DRewrite) (w : List Int) (k : Nat) : (stepRw r w k).2 = 0 ∨ (stepRw r w k).2 = 3 ∨ (stepRw r w k).2 = 5 := by
  unfold stepRw
  split
  · unfold fitL; split
    · exact .inl rfl
    · exact .inr (.inr rfl)
  · exact .inr (.inl rfl)

/-- A row of words of the call's own. -/
structure WsRow (lo : Nat) (V : Value) (us : List Value) (ts : List (List Int)) (W : World) : Prop where
  own : W.ownsRow lo 25 1 V us.length us
  inn : Inn 1 2 lo W.heap.size us (itsOf oneI ts) W
theorem WsRow.below {lo : Nat} {V : Value} {us : List Value} {ts : List (List Int)} {W W' : World} (h : WsRow lo V us ts W) (hb : Below W.heap.size W W') : WsRow lo V us ts W' :=
  ⟨own_below' h.own hb, (h.inn.below hb).wide hb.size⟩
theorem WsRow.len {lo : Nat} {V : Value} {us : List Value} {ts : List (List Int)} {W : World} (h : WsRow lo V us ts W) : us.length = ts.length := by rw [h.inn.len]; simp [itsOf]
theorem WsRow.nil (w : World) : WsRow w.heap.size (.slice (some ⟨w.heap.size, 0, none⟩) 0 0) [] [] (w.alloc (.cells #[] 25)) :=
  ⟨own_empty w _ 1, Inn.nil _ _ _ _ _⟩
theorem ws_push {lo hi : Nat} {V V' u : Value} {us : List Value} {ts : List (List Int)} {t : List Int} {W W' : World} (own : W.ownsRow lo 25 1 V us.length us) (inn : Inn 1 2 lo hi us (itsOf oneI ts) W) (hlo : lo ≤ hi)
    (o : W.ownsRow hi 2 1 u t.length (t.map (Value.int .i64))) (hhi : hi ≤ W.heap.size) (hg : W.grownBy W' V.ownBlock) (own' : W'.ownsRow lo 25 1 V' (us.length + 1) (us ++ [u])) : WsRow lo V' (us ++ [u]) (ts ++ [t]) W' := by
  refine ⟨by rw [List.length_append]; exact own', ?_⟩
  have i1 := inn.snoc (it := (t.length, rows oneI t)) (hi' := W.heap.size) (by rw [rows_oneI]; exact o) (Nat.le_refl _) hlo (Nat.le_refl _) hhi
  have i2 := (i1.kept own hg (by decide)).wide (hi' := W'.heap.size) hg.size
  have e1 : itsOf oneI (ts ++ [t]) = itsOf oneI ts ++ [(t.length, rows oneI t)] := by simp [itsOf]
  rw [e1]
  exact i2
theorem WsRow.keptBy {lo : Nat} {V : Value} {us : List Value} {ts : List (List Int)} {W W' : World} {row : Option Nat} (h : WsRow lo V us ts W) (hg : W.grownBy W' row) (h1 : V.ownBlock ≠ row) (h2 : ∀ u ∈ us, u.ownBlock = none ∨ u.ownBlock ≠ row) : WsRow lo V us ts W' := by
  refine ⟨h.own.kept hg (.inr h1), ⟨h.inn.len, fun j v it hv hit => (h.inn.own j v it hv hit).kept hg (h2 v (List.mem_of_getElem? hv)), ?_, h.inn.apart⟩⟩
  exact fun j v k hv hk => Nat.lt_of_lt_of_le (h.inn.top j v k hv hk) hg.size

/-- The state of the search behind some steps. -/
structure NxSt (B : Nat) (ms : List (List Int)) (V Vs Vk : Value) (W : World) : Prop where
  words : ∃ us, WsRow B V us (dedup ms) W
  steps : ∃ ns cs, W.ownsRow B 25 1 Vs ns cs ∧ ns ≤ ms.length
  apart : V.ownBlock ≠ Vs.ownBlock
  keys : ∃ ks, W.ownsRow B 9 1 Vk ks.length (ks.map Value.string) ∧ Rising ks ∧ (∀ b, b ∈ ks ↔ ∃ z ∈ ms, keyB z = b) ∧ ks.length ≤ ms.length
  word : ∀ z ∈ ms, isWordB z = true
theorem NxSt.below {B : Nat} {ms : List (List Int)} {V Vs Vk : Value} {W W' : World} (h : NxSt B ms V Vs Vk W) (hb : Below W.heap.size W W') : NxSt B ms V Vs Vk W' := by
  obtain ⟨⟨us, h1⟩, ⟨ns, cs, h2, h3⟩, h4, ⟨ks, h5, h6⟩, h7⟩ := h
  exact ⟨⟨us, h1.below hb⟩, ⟨ns, cs, own_below' h2 hb, h3⟩, h4, ⟨ks, own_below' h5 hb, h6⟩, h7⟩
theorem own_lt {w : World} {base : Nat} {e : TypeId} {size n : Nat} {v : Value} {xs : List Value} (h : w.ownsRow base e size v n xs) {k : Nat} (hk : v.ownBlock = some k) : k < w.heap.size := (h.lt k hk).2

theorem ap_step {W : World} {base : Nat} {e : TypeId} {size n : Nat} {V V' U : Value} {cs : List Value} (h : V.ownBlock ≠ U.ownBlock) (ho : W.ownsRow base e size U n cs) (hl : V'.ownBlock = V.ownBlock ∨ V'.ownBlock = some W.heap.size) : V'.ownBlock ≠ U.ownBlock := by
  rcases hl with h1 | h1
  · rw [h1]; exact h
  · rw [h1]; intro e2
    have := own_lt ho e2.symm
    omega
/-- The keys' list: other rows change, or others are made. -/
def KeysAre (B : Nat) (ms : List (List Int)) (k : Value) (W : World) : Prop := ∃ ks', W.ownsRow B 9 1 k ks'.length (ks'.map Value.string) ∧ Rising ks' ∧ (∀ b, b ∈ ks' ↔ ∃ y ∈ ms, keyB y = b) ∧ ks'.length ≤ ms.length
theorem keys_below {B : Nat} {ms : List (List Int)} {k : Value} {W W' : World} (h : KeysAre B ms k W) (hb : Below W.heap.size W W') : KeysAre B ms k W' := by
  obtain ⟨ks', h1, h2⟩ := h
  exact ⟨ks', own_below' h1 hb, h2⟩
theorem keys_kept {B : Nat} {ms : List (List Int)} {k : Value} {W W' : World} (h : KeysAre B ms k W) {b s n : Nat} {t : TypeId} {V : Value} {cs : List Value} (ho : W.ownsRow b t s V n cs) (hg : W.grownBy W' V.ownBlock) (hne : 9 ≠ t) : KeysAre B ms k W' := by
  obtain ⟨ks', h1, h2⟩ := h
  exact ⟨ks', h1.kept hg (own_apart_ty h1 ho hne), h2⟩

set_option maxRecDepth 100000 in
set_option maxHeartbeats 2000000 in
theorem l10Next_any (b off n c : Nat) (es : List ERewrite) (xs : List DRewrite) (b1 o1 n1 c1 : Nat) (x : List Int) (w : World) (hs : Sl w b off (rows ERewrite.vs es)) (hr : RcsRewrite w es) (hd : es.map (·.d) = xs) (hl : xs.length = n) (hn : n ≤ 1048576) (ht : sumRewrite xs ≤ 1048576)
    (hs1 : Sl w b1 o1 (x.map (.int .i64))) (hl1 : x.length = n1) (hn1 : n1 ≤ 1048576) (hc1 : n1 ≤ c1) (hv : validRws xs = true) (hx : isWordB x = true) :
    Calls Try.prog 60 #[.slice (some ⟨b, off, none⟩) n c, .slice (some ⟨b1, o1, none⟩) n1 c1] w fun e w' => ∃ (V Vs F : Value) (us : List Value), e = .returned (.tuple #[V, Vs, F]) ∧ WsRow w.heap.size V us (dedup (movesIn xs x)) w' ∧ Below w.heap.size w w' := by
  have hn60 : n ≤ 60 := by have := (validRws_len hv).2; omega
  have hn400 : n1 ≤ 400 := by have := isWord_len hx; omega
  have HAP : Hid (∀ W, Below w.heap.size w W → ∀ (i j : Nat) r, xs[i]? = some r → j ≤ n1 → Calls Try.prog 102 #[.slice (some ⟨b, off, none⟩) n c, .slice (some ⟨b1, o1, none⟩) n1 c1, .int .i64 i, .int .i64 j] W fun e w' => ∃ v, e = .returned (.tuple #[v, .int .i64 (stepRw r x j).2]) ∧
      w'.ownsRow W.heap.size 2 1 v (stepRw r x j).1.length ((stepRw r x j).1.map (.int .i64)) ∧ Below W.heap.size W w' ∧ ((stepRw r x j).2 = 0 → ∃ g d, v = .slice (some ⟨g, 0, none⟩) (stepRw r x j).1.length d ∧ (stepRw r x j).1.length ≤ d)) :=
    fun W hB i j r hr' hj => l10Apply_any b off n c es xs b1 o1 n1 c1 x i j r hr' W (hs.below' hB) (hr.below hB) hd hl hn ht (hs1.below' hB) hl1 hn1 hc1 hj
  have HL := Lib.hid hl; have HL1 := Lib.hid hl1
  have HWD : Hid (∀ (i j : Nat) (r : DRewrite) z, xs[i]? = some r → stepRw r x j = (z, 0) → isWordB z = true) := by
    intro i j r z hi hz
    have := stepRw_word (k := j) hx (okRw_parts (okRw_at hv (List.mem_of_getElem? hi))).2.1 (by rw [hz])
    rwa [hz] at this
  have HML : Hid (∀ i (r : DRewrite) j, i < n → j ≤ n1 + 1 → (movesIn (xs.take i) x ++ movesTo r x j).length ≤ 24461) := by
    intro i r j hi hj
    have h1 := movesIn_len x (xs.take i)
    have h2 := movesTo_len r x j
    rw [List.length_take, hl, hl1] at h1
    have h3 : min i n * (n1 + 1) ≤ 60 * 401 := Nat.mul_le_mul (by omega) (by omega)
    rw [List.length_append]; omega
  clear hs hr hd hl ht hs1 hl1 hv hx
  obtain ⟨wa, HWa, Ba, xa, xb, xc, sza⟩ := al3 w (.cells #[] 25) (.cells #[] 25) (.cells #[] 9)
  have HST0 : Hid (NxSt w.heap.size (movesIn (xs.take 0) x) (.slice (some ⟨w.heap.size, 0, none⟩) 0 0) (.slice (some ⟨w.heap.size + 1, 0, none⟩) 0 0) (.slice (some ⟨w.heap.size + 1 + 1, 0, none⟩) 0 0) wa) := by
    refine ⟨⟨[], ?_, Inn.nil _ _ _ _ _⟩, ⟨0, [], ?_, Nat.le_refl _⟩, by simp [Value.ownBlock], ⟨[], ?_, List.Pairwise.nil, fun b => by simp [movesIn], Nat.le_refl _⟩, fun z hz => by simp [movesIn] at hz⟩
    · have := own_of_block (n := 0) (cap := 0) (s := 1) (xs := []) (base := w.heap.size) xa (Nat.le_refl _) rfl (Nat.le_refl _) (Nat.zero_le _)
      simpa using this
    · have := own_of_block (n := 0) (cap := 0) (s := 1) (xs := []) (base := w.heap.size) xb (by omega) rfl (Nat.le_refl _) (Nat.zero_le _)
      simpa using this
    · have := own_of_block (n := 0) (cap := 0) (s := 1) (xs := []) (base := w.heap.size) xc (by omega) rfl (Nat.le_refl _) (Nat.zero_le _)
      simpa using this
  clear xa xb xc sza
  go_enter Try.func60, Try.ntmps60
  go_wp2_with fail
  rw [← HWa.out]
  go_loopw [7, 8, 10, 11] (fun o s k r wr => ∃ (i : Nat) (V Vs Vk : Value), i ≤ n ∧ r = .int .i64 i ∧ V = o ∧ Vs = s ∧ Vk = k ∧ Hid (NxSt w.heap.size (movesIn (xs.take i) x) V Vs Vk wr) ∧ Hid (Below w.heap.size w wr)) (fun _ _ _ r _ => n - (intOf r).toNat)
  case atStart => exact ⟨0, _, _, _, Nat.zero_le _, rfl, rfl, rfl, rfl, HST0, Ba⟩
  case round =>
    obtain ⟨i, V0, Vs0, Vk0, hi, rfl, rfl, rfl, rfl, HST, HB⟩ := hrel
    by_cases hlt : i < n
    · obtain ⟨rr, HRR⟩ := hget HL hlt
      have hiI : (i : Int) < (n : Int) := by omega
      go_wp2_with fail
      obtain ⟨wo, hwo⟩ : ∃ wo, Hid (wo = wr) := ⟨_, rfl⟩
      go_loopw [7, 8, 10, 12] (fun o s k a wr => ∃ (j : Nat) (V Vs Vk : Value), j ≤ n1 + 1 ∧ a = .int .i64 j ∧ V = o ∧ Vs = s ∧ Vk = k ∧ Hid (NxSt w.heap.size (movesIn (xs.take i) x ++ movesTo rr x j) V Vs Vk wr) ∧ Hid (Below w.heap.size w wr)) (fun _ _ _ a _ => n1 + 1 - (intOf a).toNat)
      case atStart => exact ⟨0, _, _, _, by omega, rfl, rfl, rfl, rfl, by unfold movesTo; simpa using HST, HB⟩
      case round =>
        obtain ⟨j, V, Vs, Vk, hj, rfl, rfl, rfl, rfl, HSJ, HBJ⟩ := hrel
        by_cases hjl : j ≤ n1
        · have hjI : (j : Int) ≤ (n1 : Int) := by omega
          obtain ⟨z, cd, hst⟩ : ∃ z cd, stepRw rr x j = (z, cd) := ⟨_, _, rfl⟩
          have hcd := stepRw_codes rr x j
          rw [hst] at hcd
          have HZ := Lib.hid hst
          go_wp2_with fail
          refine (HAP.out _ HBJ.out i j rr HRR.out hjl).mono ?_
          rintro e w1 ⟨v, he, own1, b1', hv1⟩
          rw [hst] at he own1 hv1
          dsimp only at he own1 hv1 hcd
          subst he
          clear hst
          rcases hcd with rfl | rfl | rfl
          · obtain ⟨g, d, hv2, hd2⟩ := hv1 rfl
            have HZW := Lib.hid (HWD.out i j rr z HRR.out HZ.out)
            have hz400 := isWord_len HZW.out
            obtain ⟨lz, hlz⟩ : ∃ l, z.length = l := ⟨_, rfl⟩
            rw [hlz] at own1 hd2 hz400 hv2
            subst hv2
            have HLZ := Lib.hid hlz
            clear hlz hv1
            obtain ⟨⟨us, hws⟩, ⟨ns, cs, hown, hns⟩, hap, ⟨ks, hks, hris, hmem, hkl⟩, hword⟩ := HSJ.out
            have hml := HML.out i rr j hlt hj
            have HMS : Hid (movesIn (xs.take i) x ++ movesTo rr x (j + 1) = (movesIn (xs.take i) x ++ movesTo rr x j) ++ [z]) := by unfold Hid; rw [movesTo_yes HZ.out, List.append_assoc]
            obtain ⟨ms, hms⟩ : ∃ ms, movesIn (xs.take i) x ++ movesTo rr x j = ms := ⟨_, rfl⟩
            rw [hms] at hws hns hmem hkl hword hml
            rw [hms] at HMS
            have HWO := Lib.hid hword; have HMEM := Lib.hid hmem; have HRIS := Lib.hid hris; have HAPT := Lib.hid hap
            clear hword hmem hris hms hap
            obtain ⟨hB0, hhi⟩ : ∃ hi, Hid (hi = wr.heap.size) := ⟨_, rfl⟩
            have hlo : w.heap.size ≤ hB0 := by rw [hhi.out]; exact HBJ.out.size
            obtain ⟨lu, hlu⟩ : ∃ l, us.length = l := ⟨_, rfl⟩
            have HLU := Lib.hid hlu
            obtain ⟨lk, hlk⟩ : ∃ l, ks.length = l := ⟨_, rfl⟩
            have HLK := Lib.hid hlk
            have hul : lu ≤ 24461 := by have := hws.len; have := dedup_len ms; omega
            have ownV0 := hws.own
            rw [hlu] at ownV0; rw [hlk] at hks hkl
            obtain ⟨AV, cV, hAV⟩ := own_form ownV0
            obtain ⟨AS, cS, hAS⟩ := own_form hown
            obtain ⟨AK, cK, hAK⟩ := own_form hks
            subst hAV; subst hAS; subst hAK
            clear hlu hlk
            have ownV1 := own_below' ownV0 b1'
            have innV1 : Inn 1 2 w.heap.size hB0 us (itsOf oneI (dedup ms)) w1 := by rw [hhi.out]; exact hws.inn.below b1'
            have ownS1 := own_below' hown b1'
            have ownK1 := own_below' hks b1'
            have HB1 := Lib.hid (below_step HBJ.out b1')
            rw [← hhi.out] at own1
            have hh1 : hB0 ≤ w1.heap.size := by rw [hhi.out]; exact b1'.size
            clear hws hown hks b1' ownV0
            go_wp2_with fail
            refine (l10Key_any g 0 lz d z _ (sl_of_own own1) HLZ.out (by omega) HZW.out).mono ?_
            rintro e w2 ⟨rfl, b2⟩
            have ownV2 := own_below' ownV1 b2; have innV2 := innV1.below b2; have ownS2 := own_below' ownS1 b2; have ownK2 := own_below' ownK1 b2; have own2 := own_below' own1 b2
            have HB2 := Lib.hid (below_step HB1.out b2)
            have hh2 := Nat.le_trans hh1 b2.size
            clear ownV1 innV1 ownS1 ownK1 own1 b2
            go_wp2_with fail
            refine (l10Add_any w.heap.size lk _ ks (keyB z) w2 ownK2 HB2.out.size (by omega) HRIS.out).mono ?_
            rintro e w3 hadd
            obtain ⟨k3, ks3, fr, rfl, hfr, ownK3, ris3, mem3, len3, hg3⟩ := hadd
            have ownV3 := ownV2.kept hg3 (own_apart_ty ownV2 ownK2 (by decide))
            have innV3 := innV2.kept ownK2 hg3 (by decide)
            have ownS3 := ownS2.kept hg3 (own_apart_ty ownS2 ownK2 (by decide))
            have own3 := own2.kept hg3 (own_apart_ty own2 ownK2 (by decide))
            have HB3 := Lib.hid (grown_below HB2.out ownK2 (Nat.le_refl _) hg3)
            have hh3 := Nat.le_trans hh2 hg3.size
            have HK3 : Hid (KeysAre w.heap.size (ms ++ [z]) k3 w3) := by
              refine ⟨ks3, ownK3, ris3, fun b => ?_, by rw [List.length_append, List.length_singleton]; omega⟩
              rw [mem3, HMEM.out]
              constructor
              · rintro (rfl | ⟨y, hy, rfl⟩)
                · exact ⟨z, by simp, rfl⟩
                · exact ⟨y, by simp [hy], rfl⟩
              · rintro ⟨y, hy, rfl⟩
                rcases List.mem_append.1 hy with hy | hy
                · exact .inr ⟨y, hy, rfl⟩
                · have : y = z := by simpa using hy
                  exact .inl (by rw [this])
            have HW3 : Hid (∀ y ∈ ms ++ [z], isWordB y = true) := by
              intro y hy
              rcases List.mem_append.1 hy with hy | hy
              · exact HWO.out y hy
              · have : y = z := by simpa using hy
                rw [this]; exact HZW.out
            have hin : (keyB z ∈ ks) ↔ z ∈ dedup ms := by
              rw [HMEM.out, dedup_mem]
              constructor
              · rintro ⟨y, hy, he⟩
                rw [← keyB_inj (HWO.out y hy) HZW.out he]; exact hy
              · exact fun h => ⟨z, h, rfl⟩
            clear ownV2 innV2 ownS2 ownK2 own2 hg3 ownK3 ris3 mem3 len3
            cases fr
            · have HIN : Hid (z ∈ dedup ms) := by
                refine hin.1 (Classical.byContradiction fun h => ?_)
                have := hfr.2 h
                cases this
              have HNX : Hid (NxSt w.heap.size (ms ++ [z]) (.slice AV lu cV) (.slice AS ns cS) k3 w3) := by
                refine ⟨⟨us, by rw [HLU.out]; exact ownV3, ?_⟩, ⟨ns, cs, ownS3, by rw [List.length_append]; omega⟩, HAPT.out, HK3.out, HW3.out⟩
                rw [dedup_old HIN.out]
                exact innV3.wide hh3
              clear ownV3 innV3 ownS3 own3 hfr hin
              go_wp2_with fail
              go_roundw
              case rel => exact ⟨j + 1, _, _, _, by omega, by go_num, rfl, rfl, rfl, by rw [HMS.out]; exact HNX, HB3⟩
              case measure => simp [intOf]; omega
            · have HIN : Hid (z ∉ dedup ms) := fun h => (hfr.1 rfl) (hin.2 h)
              clear hfr hin
              obtain ⟨w4, HW4, b4, x4⟩ := al1 w3 (.cells #[.slice (some ⟨g, 0, none⟩) lz d] 25)
              have ownV4 := own_below' ownV3 b4; have innV4 := innV3.below b4; have ownS4 := own_below' ownS3 b4; have own4 := own_below' own3 b4
              have HB4 := Lib.hid (below_step HB3.out b4)
              have hh4 := Nat.le_trans hh3 b4.size
              have src4 : Src 1 w4 (.slice (some ⟨w3.heap.size, 0, none⟩) 1 1) 1 [.slice (some ⟨g, 0, none⟩) lz d] := Src.of_own (own_of_block (n := 1) (cap := 1) (s := 1) (xs := [.slice (some ⟨g, 0, none⟩) lz d]) (base := 0) x4 (by omega) rfl (by omega) (by unfold maxLen; omega))
              have HK4 := Lib.hid (keys_below HK3.out b4)
              clear ownV3 innV3 ownS3 own3 x4 b4
              go_wp2_with (first | (at_builtin; rw [← HW4.out]; refine wpList_appy rfl _ _ _ rfl Try.underlying43 infoInt64SS rfl (by omega) w.heap.size ownV4 HB4.out.size rfl src4 rfl (by simp [Value.oneCell']) (by unfold maxLen; omega) (by omega) ?_; intro o5 w5 own5 hg5 hl5; have ownS5 := ownS4.kept hg5 (.inr HAPT.out.symm); have WS5 : WsRow w.heap.size o5 (us ++ [.slice (some ⟨g, 0, none⟩) lz d]) (dedup ms ++ [z]) w5 := ws_push (t := z) (by rw [HLU.out]; exact ownV4) innV4 hlo (by rw [HLZ.out]; exact own4) hh4 hg5 (by rw [HLU.out]; exact own5); have hap5 : o5.ownBlock ≠ (Value.slice AS ns cS).ownBlock := ap_step HAPT.out ownS4 hl5; have HK5 := Lib.hid (keys_kept HK4.out ownV4 hg5 (by decide)); have HB5 := Lib.hid (grown_below HB4.out ownV4 (Nat.le_refl _) hg5); obtain ⟨A5, c5, hA5⟩ := own_form own5; subst hA5; obtain ⟨w6, HW6, b6, x6a, x6b⟩ := al2 w5 (.cells #[.int .i64 i, .int .i64 j] 2) (.cells #[.slice (some ⟨w5.heap.size, 0, none⟩) 2 2] 25); have ownS6 := own_below' ownS5 b6; have WS6 := Lib.hid (WS5.below b6); have HK6 := Lib.hid (keys_below HK5.out b6); have HB6 := Lib.hid (below_step HB5.out b6); have src6 : Src 1 w6 (.slice (some ⟨w5.heap.size + 1, 0, none⟩) 1 1) 1 [.slice (some ⟨w5.heap.size, 0, none⟩) 2 2] := Src.of_own (own_of_block (n := 1) (cap := 1) (s := 1) (xs := [.slice (some ⟨w5.heap.size, 0, none⟩) 2 2]) (base := 0) x6b (by omega) rfl (by omega) (by unfold maxLen; omega)); have HAP5 := Lib.hid hap5; clear ownV4 innV4 ownS4 own4 src4 own5 hg5 hl5 ownS5 WS5 hap5 b6 x6a x6b HK4 HK5 HB5) | (at_builtin; rw [← HW6.out]; refine wpList_appy rfl _ _ _ rfl Try.underlying43 infoInt64SS rfl (by omega) w.heap.size ownS6 HB6.out.size rfl src6 rfl (by simp [Value.oneCell']) (by unfold maxLen; omega) (by omega) ?_; intro s7 w7 own7 hg7 hl7))
              have hap7 : (Value.slice A5 (lu + 1) c5).ownBlock ≠ s7.ownBlock := (ap_step HAP5.out.symm WS6.out.own hl7).symm
              have HNX : Hid (NxSt w.heap.size (ms ++ [z]) (.slice A5 (lu + 1) c5) s7 k3 w7) := by
                refine ⟨⟨us ++ [.slice (some ⟨g, 0, none⟩) lz d], WS6.out.own.kept hg7 (.inr HAP5.out), ?_⟩, ⟨_, _, own7, by rw [List.length_append, List.length_singleton]; omega⟩, hap7, keys_kept HK6.out ownS6 hg7 (by decide), HW3.out⟩
                rw [dedup_new HIN.out]
                exact (WS6.out.inn.kept ownS6 hg7 (by decide)).wide hg7.size
              have HB7 := Lib.hid (grown_below HB6.out ownS6 (Nat.le_refl _) hg7)
              clear ownS6 src6 own7 hg7 hl7 hap7
              go_roundw
              case rel => exact ⟨j + 1, _, _, _, by omega, by go_num, rfl, rfl, rfl, by rw [HMS.out]; exact HNX, HB7⟩
              case measure => simp [intOf]; omega
          · have HNO : Hid (movesIn (xs.take i) x ++ movesTo rr x (j + 1) = movesIn (xs.take i) x ++ movesTo rr x j) := by unfold Hid; rw [movesTo_no (by rw [HZ.out]; show (3 : Int) ≠ 0; decide)]
            have HSN := Lib.hid (HSJ.out.below b1')
            have HBN := Lib.hid (below_step HBJ.out b1')
            clear own1 hv1 b1'
            go_wp2_with fail
            go_roundw
            case rel => exact ⟨j + 1, _, _, _, by omega, by go_num, rfl, rfl, rfl, by rw [HNO.out]; exact HSN, HBN⟩
            case measure => simp [intOf]; omega
          · have HNO : Hid (movesIn (xs.take i) x ++ movesTo rr x (j + 1) = movesIn (xs.take i) x ++ movesTo rr x j) := by unfold Hid; rw [movesTo_no (by rw [HZ.out]; show (5 : Int) ≠ 0; decide)]
            have HSN := Lib.hid (HSJ.out.below b1')
            have HBN := Lib.hid (below_step HBJ.out b1')
            clear own1 hv1 b1'
            go_wp2_with fail
            go_roundw
            case rel => exact ⟨j + 1, _, _, _, by omega, by go_num, rfl, rfl, rfl, by rw [HNO.out]; exact HSN, HBN⟩
            case measure => simp [intOf]; omega
        · obtain rfl : j = n1 + 1 := by omega
          have hjI : ¬ ((n1 : Int) + 1 ≤ (n1 : Int)) := by omega
          have hjI2 : ¬ (((n1 + 1 : Nat) : Int) ≤ (n1 : Int)) := by omega
          have HMI : Hid (movesIn (xs.take i) x ++ movesTo rr x (n1 + 1) = movesIn (xs.take (i + 1)) x) := by unfold Hid; rw [movesIn_succ x HRR.out, HL1.out]
          have HN := HSJ.out
          rw [HMI.out] at HN
          have HNH := Lib.hid HN
          clear HN
          go_wp2_with fail
          go_roundw
          case rel => exact ⟨i + 1, _, _, _, by omega, by go_num, rfl, rfl, rfl, HNH, HBJ⟩
          case measure => simp [intOf]; omega
    · obtain rfl : i = n := by omega
      have hiI : ¬ (i : Int) < (i : Int) := by omega
      have HE : Hid (xs.take i = xs) := List.take_of_length_le (by have := HL.out; omega)
      go_wp2_with fail
      go_ret3
      obtain ⟨⟨us, hws⟩, -⟩ := HST.out
      rw [HE.out] at hws
      exact ⟨_, ⟨_, _, rfl⟩, ⟨us, hws⟩, HB.out⟩

set_option maxRecDepth 100000 in
set_option maxHeartbeats 1000000 in
theorem specSuccessorsOf_any (b off n c : Nat) (es : List ERewrite) (xs : List DRewrite) (b1 o1 n1 c1 : Nat) (x : List Int) (w : World) (hs : Sl w b off (rows ERewrite.vs es)) (hr : RcsRewrite w es) (hd : es.map (·.d) = xs) (hl : xs.length = n) (hn : n ≤ 1048576) (hc : n ≤ c) (ht : sumRewrite xs ≤ 1048576) (wf : ∀ x ∈ xs, x.wf) (hs1 : Sl w b1 o1 (x.map (.int .i64))) (hl1 : x.length = n1) (hn1 : n1 ≤ 1048576) (hc1 : n1 ≤ c1) (wf1 : Wf64s x) :
    Calls Try.prog 16 #[.slice (some ⟨b, off, none⟩) n c, .slice (some ⟨b1, o1, none⟩) n1 c1] w fun e w' => ∃ v us, e = .returned (.tuple #[v, .int .i64 (succsOf xs x).2]) ∧
      Grid w.heap.size w'.heap.size 25 1 v (succsOf xs x).1.length us 2 1 us (itsOf oneI (succsOf xs x).1) w' ∧ Below w.heap.size w w' := by
  have hgrid : ∀ {v us W} {z : List (List Int)}, WsRow w.heap.size v us z W → Grid w.heap.size W.heap.size 25 1 v z.length us 2 1 us (itsOf oneI z) W := by
    intro v us W z h
    refine ⟨by rw [← h.len]; exact h.own, h.inn, fun k hk => own_lt h.own hk⟩
  have HG := @hgrid
  clear hgrid wf wf1
  have hnil : ∀ (W : World) (v : Int), succsOf xs x = ([], v) → ∃ u us, Ending.returned (.tuple #[.slice none 0 0, .int .i64 v]) = .returned (.tuple #[u, .int .i64 (succsOf xs x).2]) ∧ Grid w.heap.size W.heap.size 25 1 u (succsOf xs x).1.length us 2 1 us (itsOf oneI (succsOf xs x).1) W := by
    intro W v h
    rw [h]
    exact ⟨_, [], rfl, World.ownsRow_nil _ _ _ _, Inn.nil _ _ _ _ _, fun k hk => by cases hk⟩
  have HNIL := Lib.hid hnil
  clear hnil
  have HL := Lib.hid hl; have HL1 := Lib.hid hl1; have HD := Lib.hid hd; have HT := Lib.hid ht
  clear hl hl1 hd ht
  rcases Bool.eq_false_or_eq_true (validRws xs) with h1 | h1
  rotate_left
  · have HV := Lib.hid h1; clear h1
    have HF : Hid (succsOf xs x = ([], 1)) := by unfold Hid succsOf; rw [HV.out]; rfl
    go_enter Try.func16, Try.ntmps16
    go_wp2_with fail
    refine (l10Is_is b off n c es xs false HV.out _ hs hr HD.out HL.out hn HT.out).mono ?_
    rintro e w' ⟨rfl, rfl⟩
    go_wp2_with fail
    go_ret2
    obtain ⟨u, us, h1, h2⟩ := HNIL.out w 1 HF.out
    exact ⟨u, us, h1, h2, Below.refl _ _⟩
  have HV := Lib.hid h1; clear h1
  rcases Bool.eq_false_or_eq_true (isWordB x) with h2 | h2
  rotate_left
  · have HW := Lib.hid h2; clear h2
    have HF : Hid (succsOf xs x = ([], 1)) := by unfold Hid succsOf; rw [HW.out, Bool.and_false]; rfl
    go_enter Try.func16, Try.ntmps16
    go_wp2_with fail
    refine (l10Is_is b off n c es xs true HV.out _ hs hr HD.out HL.out hn HT.out).mono ?_
    rintro e w' ⟨rfl, rfl⟩
    go_wp2_with fail
    refine (l03Is_is b1 o1 n1 c1 x false HW.out _ hs1 HL1.out (by omega)).mono ?_
    rintro e w' ⟨rfl, rfl⟩
    go_wp2_with fail
    go_ret2
    obtain ⟨u, us, h1, h2⟩ := HNIL.out w 1 HF.out
    exact ⟨u, us, h1, h2, Below.refl _ _⟩
  have HW := Lib.hid h2; clear h2
  have HF : Hid (succsOf xs x = (dedup (movesIn xs x), 0)) := by unfold Hid succsOf; rw [HV.out, HW.out]; rfl
  go_enter Try.func16, Try.ntmps16
  go_wp2_with fail
  refine (l10Is_is b off n c es xs true HV.out _ hs hr HD.out HL.out hn HT.out).mono ?_
  rintro e w' ⟨rfl, rfl⟩
  go_wp2_with fail
  refine (l03Is_is b1 o1 n1 c1 x true HW.out _ hs1 HL1.out (by omega)).mono ?_
  rintro e w' ⟨rfl, rfl⟩
  go_wp2_with fail
  refine (l10Next_any b off n c es xs b1 o1 n1 c1 x _ hs hr HD.out HL.out hn HT.out hs1 HL1.out hn1 hc1 HV.out HW.out).mono ?_
  rintro e w' ⟨V, Vs, F, us, rfl, hws, hb⟩
  have HWS := Lib.hid hws
  clear hws
  go_wp2_with fail
  go_ret2
  rw [HF.out]
  exact ⟨_, us, rfl, HG HWS.out, hb⟩
end Go.Proofs.Ytjakgeblmkdbpaa
