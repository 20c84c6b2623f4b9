/- PartAt on both sides. -/
import Derived.Test.YtffcggagjeoagaaNumTree
import Derived.Test.YtffcggagjeoagaaAreTrees
import Derived.Test.YtffcggagjeoagaaCopy
import Derived.Test.YtffcggagjeoagaaSeq
import Derived.StillTailTactics
import Derived.Test.YtffcggagjeoagaaHelpInt
namespace Go.Proofs.Ytffcggagjeoagaa
open Go.RowKit
set_option linter.all false

theorem partAt_enc (x : T) (p : List Int) (h : x.nodes ≤ 2000) : partAt x.enc p = if pathOk p then partOf x p else ([], 2) := by
  unfold partAt
  rw [if_pos ((isTree_iff _).2 ⟨by rw [T.length_enc]; exact h, x, rfl⟩), treeFor_enc]
def isDir (d : Int) : Bool := decide (d = 0) || decide (d = 1)
theorem isDir_in (d : Int) : isDir d = inB d 0 1 := by
  rw [Bool.eq_iff_iff, inB_iff]
  unfold isDir
  simp only [Bool.or_eq_true, decide_eq_true_eq]
  omega
theorem pathOk_eq (p : List Int) : pathOk p = (decide (p.length ≤ 100) && p.all isDir) := rfl

set_option maxRecDepth 100000 in
theorem l21Path_is (b off n c : Nat) (p : List Int) (v : Bool) (hv : pathOk p = v) (w : World) (hs : Sl w b off (p.map (.int .i64))) (hl : p.length = n) (hn : n ≤ 1048576) :
    Calls Try.prog 108 #[.slice (some ⟨b, off, none⟩) n c] w fun e w' => e = .returned (.bool v) ∧ w = w' := by
  have HL := Lib.hid hl; have HV := Lib.hid hv
  clear hl hv
  go_enter Try.func108, Try.ntmps108
  go_wp2
  go_loop [3] (fun i => ∃ k : Nat, k ≤ n ∧ i = .int .i64 k ∧ Hid (∀ j d, j < k → p[j]? = some d → isDir d = true)) (fun i => n - (intOf i).toNat)
  case atStart => exact ⟨0, Nat.zero_le _, rfl, by intro j d hj; omega⟩
  case round =>
    obtain ⟨k, hk, rfl, HR⟩ := hrel
    by_cases hlt : k < n
    · obtain ⟨d, HD, hd⟩ := map_at (Value.int .i64) p (k := k) (by have := HL.out; omega)
      have hca := hs.at hd
      clear hd
      by_cases h0 : d = 0
      · subst h0
        go_wp2
        go_round
        case rel => exact ⟨k + 1, by omega, by go_num, by
          intro j d' hj hd'
          by_cases ej : j = k
          · subst ej
            have h2 := HD.out
            rw [hd'] at h2; injection h2 with h2; subst h2; rfl
          · exact HR.out j d' (by omega) hd'⟩
        case measure => simp [intOf]; omega
      · have e0 : (d != 0) = true := by simpa using h0
        by_cases h1 : d = 1
        · subst h1
          clear h0
          go_wp2
          go_round
          case rel => exact ⟨k + 1, by omega, by go_num, by
            intro j d' hj hd'
            by_cases ej : j = k
            · subst ej
              have h2 := HD.out
              rw [hd'] at h2; injection h2 with h2; subst h2; rfl
            · exact HR.out j d' (by omega) hd'⟩
          case measure => simp [intOf]; omega
        · have e1 : (d != 1) = true := by simpa using h1
          have HF : Hid (v = false) := by
            unfold Hid
            rw [← HV.out, pathOk_eq]
            have : p.all isDir = false := all_no HD.out (by simp [isDir, h0, h1])
            rw [this, Bool.and_false]
          clear h0 h1
          go_wp2
          go_ret
          exact ⟨ret_bool HF.out.symm, rfl⟩
    · have HA : Hid (p.all isDir = true) := by
        unfold Hid
        rw [List.all_eq_true]
        intro d hd
        obtain ⟨j, hj⟩ := List.getElem?_of_mem hd
        exact HR.out j d (by have := HL.out; have := (List.getElem?_eq_some_iff.1 hj).1; omega) hj
      by_cases h100 : n ≤ 100
      · have h1 : (n : Int) ≤ 100 := by omega
        go_wp2
        go_ret
        exact ⟨ret_bool (by rw [← HV.out, pathOk_eq, HA.out, HL.out, decide_eq_true h100]; rfl), rfl⟩
      · have h1 : ¬ (n : Int) ≤ 100 := by omega
        go_wp2
        go_ret
        exact ⟨ret_bool (by rw [← HV.out, pathOk_eq, HA.out, HL.out, decide_eq_false h100]; rfl), rfl⟩

/-- Where a path leads in a list of nodes. -/
def GoOut (x : T) (p : List Int) (at_ : Nat) (ok : Bool) : Prop := (ok = true → ∃ (y : T) (r : List Bool), x.part p = some y ∧ x.enc.drop at_ = y.enc ++ r) ∧ (ok = false → x.part p = none)
/-- What l21Go and l21Ask give. -/
def GoRet (x : T) (p : List Int) (e : Ending) : Prop := ∃ (at_ : Nat) (ok : Bool), e = .returned (.tuple #[.int .i64 at_, .bool ok]) ∧ GoOut x p at_ ok
theorem goRet_no {x : T} {p : List Int} {e : Ending} (h : x.part p = none) (he : e = .returned (.tuple #[.int .i64 0, .bool false])) : GoRet x p e := ⟨0, false, he, ⟨(by intro h2; cases h2), fun _ => h⟩⟩
theorem goRet_yes {x y : T} {p : List Int} {r : List Bool} {at_ : Nat} {e : Ending} (h : x.part p = some y) (hd : x.enc.drop at_ = y.enc ++ r) (he : e = .returned (.tuple #[.int .i64 at_, .bool true])) : GoRet x p e := ⟨at_, true, he, ⟨fun _ => ⟨y, r, h, hd⟩, (by intro h2; cases h2)⟩⟩
def AskRet (x : T) (p : List Int) (e : Ending) : Prop := (x.part p = none ∧ e = .returned (.tuple #[.int .i64 0, .int .i64 3])) ∨ ∃ (at_ : Nat) (y : T) (r : List Bool), x.part p = some y ∧ x.enc.drop at_ = y.enc ++ r ∧ e = .returned (.tuple #[.int .i64 at_, .int .i64 0])
theorem askRet_no {x : T} {p : List Int} {e : Ending} (h : x.part p = none) (he : e = .returned (.tuple #[.int .i64 0, .int .i64 3])) : AskRet x p e := .inl ⟨h, he⟩
theorem askRet_yes {x y : T} {p : List Int} {r : List Bool} {at_ : Nat} {e : Ending} (h : x.part p = some y) (hd : x.enc.drop at_ = y.enc ++ r) (he : e = .returned (.tuple #[.int .i64 at_, .int .i64 0])) : AskRet x p e := .inr ⟨at_, y, r, h, hd, he⟩
theorem part_pair (a b : T) (d : Int) (p : List Int) : (T.pair a b).part (d :: p) = if d = 0 then a.part p else b.part p := by simp [T.part]

set_option maxRecDepth 100000 in
theorem l21Go_any (b1 o1 n c1 : Nat) (x : T) (b2 o2 m c2 : Nat) (p : List Int) (w : World) (hs1 : Sl w b1 o1 (x.enc.map .bool)) (hl1 : x.nodes = n) (hn : n ≤ 2000) (hs2 : Sl w b2 o2 (p.map (.int .i64))) (hl2 : p.length = m) (hm : m ≤ 100) (hp : p.all isDir = true) :
    Calls Try.prog 109 #[.slice (some ⟨b1, o1, none⟩) n c1, .slice (some ⟨b2, o2, none⟩) m c2] w fun e w' => GoRet x p e ∧ w = w' := by
  have HL1 : Hid (x.enc.length = n) := by unfold Hid; rw [T.length_enc, hl1]
  have HL2 := Lib.hid hl2; have HP := Lib.hid hp
  clear hl1 hl2 hp
  go_enter Try.func109, Try.ntmps109
  go_wp2
  go_loop [6, 7] (fun a i => ∃ (k at_ : Nat), k ≤ m ∧ at_ < n ∧ a = .int .i64 at_ ∧ i = .int .i64 k ∧ Hid (∃ (y : T) (r : List Bool), x.part p = y.part (p.drop k) ∧ x.enc.drop at_ = y.enc ++ r)) (fun _ i => m - (intOf i).toNat)
  case atStart => exact ⟨0, 0, Nat.zero_le _, by have := HL1.out; rw [T.length_enc] at this; have := x.nodes_pos; omega, rfl, rfl, ⟨x, [], by simp, by simp⟩⟩
  case round =>
    obtain ⟨k, at_, hk, hat, rfl, rfl, HR⟩ := hrel
    obtain ⟨y, r, hy1, hy2⟩ := HR.out
    by_cases hlt : k < m
    · obtain ⟨d, HD, hd⟩ := map_at (Value.int .i64) p (k := k) (by have := HL2.out; omega)
      have hcd := hs2.at hd
      have hdir : d = 0 ∨ d = 1 := by
        have := List.all_eq_true.1 HP.out d (List.mem_of_getElem? HD.out)
        simpa [isDir] using this
      have hdrop : p.drop k = d :: p.drop (k + 1) := by
        obtain ⟨hk', hx⟩ := List.getElem?_eq_some_iff.1 HD.out
        rw [List.drop_eq_getElem_cons hk', hx]
      rw [hdrop] at hy1
      clear hd hdrop
      cases y with
      | nil =>
        have hx := (drop_head (l := x.enc) (k := at_) (x := false) (r := r) (by simpa [T.enc] using hy2)).1
        have hca := hs1.at (j := at_) (u := .bool false) (by rw [List.getElem?_map, hx]; rfl)
        have HN : Hid (x.part p = none) := by unfold Hid; rw [hy1]; simp [T.part]
        clear hx hy1 hy2 HR
        go_wp2
        go_ret2
        exact ⟨goRet_no HN.out rfl, rfl⟩
      | pair a e =>
        obtain ⟨hx, hd1, _⟩ := drop_head (l := x.enc) (k := at_) (x := true) (r := a.enc ++ (e.enc ++ r)) (by rw [hy2]; simp [T.enc])
        have hca := hs1.at (j := at_) (u := .bool true) (by rw [List.getElem?_map, hx]; rfl)
        have hd2 : x.enc.drop (at_ + 1 + a.nodes) = e.enc ++ r := by
          rw [← List.drop_drop, hd1, ← T.length_enc, List.drop_left]
        rw [part_pair] at hy1
        have hlen := congrArg List.length hd1
        rw [List.length_drop, HL1.out, List.length_append, List.length_append, T.length_enc, T.length_enc] at hlen
        have hna := a.nodes_pos
        have hne := e.nodes_pos
        obtain ⟨s1, hs1'⟩ : ∃ s, s = a.nodes := ⟨_, rfl⟩
        have HS := Lib.hid hs1'
        rw [← hs1'] at hd2 hlen hna
        have HD1 := Lib.hid hd1; have HD2 := Lib.hid hd2
        clear hx hd1 hd2 hy2 HR hs1'
        rcases hdir with rfl | rfl
        · rw [if_pos rfl] at hy1
          have HY := Lib.hid hy1; clear hy1
          go_wp2
          go_round
          case rel => exact ⟨k + 1, at_ + 1, by omega, by omega, by go_num, by go_num, ⟨a, _, HY.out, HD1.out⟩⟩
          case measure => simp [intOf]; omega
        · rw [if_neg (by decide)] at hy1
          have HY := Lib.hid hy1; clear hy1
          go_wp2_with fail
          refine (l21End_enc b1 o1 n c1 (at_ + 1) x.enc a (e.enc ++ r) _ HD1.out hs1 HL1.out (by omega) (by omega)).mono ?_
          rintro z w1 ⟨rfl, rfl⟩
          rw [← HS.out]
          go_wp2_with fail
          go_round
          case rel => exact ⟨k + 1, at_ + 1 + s1, by omega, by omega, by first | rfl | go_num, by go_num, ⟨e, _, HY.out, HD2.out⟩⟩
          case measure => simp [intOf]; omega
    · have HN : Hid (x.part p = some y ∧ x.enc.drop at_ = y.enc ++ r) := by
        refine ⟨?_, hy2⟩
        rw [hy1, List.drop_of_length_le (by have := HL2.out; omega)]
        cases y <;> simp [T.part]
      clear hy1 hy2 HR
      go_wp2
      go_ret2
      exact ⟨goRet_yes HN.out.1 HN.out.2 rfl, rfl⟩

/-- The code for a tree and a path, and the place. -/
theorem pathOk_facts {p : List Int} (h : pathOk p = true) : p.length ≤ 100 ∧ p.all isDir = true := by
  rw [pathOk_eq] at h
  simpa using h

set_option maxRecDepth 100000 in
theorem specPartAt_any (b1 o1 n1 c1 : Nat) (t : List Bool) (b2 o2 n2 c2 : Nat) (p : List Int) (w : World) (hs1 : Sl w b1 o1 (t.map .bool)) (hl1 : t.length = n1) (hn1 : n1 ≤ 1048576) (hc1 : n1 ≤ c1) (hs2 : Sl w b2 o2 (p.map (.int .i64))) (hl2 : p.length = n2) (hn2 : n2 ≤ 1048576) (hc2 : n2 ≤ c2) (hw : Wf64s p) :
    Calls Try.prog 16 #[.slice (some ⟨b1, o1, none⟩) n1 c1, .slice (some ⟨b2, o2, none⟩) n2 c2] w fun e w' => ∃ v, e = .returned (.tuple #[v, .int .i64 (partAt t p).2]) ∧
      w'.ownsRow w.heap.size 4 1 v (partAt t p).1.length ((partAt t p).1.map .bool) ∧ Below w.heap.size w w' := by
  have HL1 := Lib.hid hl1; have HL2 := Lib.hid hl2
  clear hl1 hl2 hw
  rcases Bool.eq_false_or_eq_true (isTreeB t) with h | h
  rotate_left
  · have H := Lib.hid h; clear h
    have HE : Hid (partAt t p = ([], 1)) := by unfold Hid partAt; rw [H.out]; rfl
    have HA : Hid (∀ W, Sl W b1 o1 (t.map .bool) → Calls Try.prog 62 #[.slice (some ⟨b1, o1, none⟩) n1 c1, .slice (some ⟨b2, o2, none⟩) n2 c2] W fun e w' => e = .returned (.tuple #[.int .i64 0, .int .i64 1]) ∧ W = w') := by
      intro W hW
      go_enter Try.func62, Try.ntmps62
      go_wp2_with fail
      refine (l21Is_is b1 o1 n1 c1 t false H.out _ hW HL1.out (by omega)).mono ?_
      rintro e w' ⟨rfl, rfl⟩
      go_wp2_with fail
      go_ret2
      exact ⟨rfl, rfl⟩
    go_enter Try.func16, Try.ntmps16
    go_wp2_with fail
    refine (HA.out _ hs1).mono ?_
    rintro e w' ⟨rfl, rfl⟩
    go_wp2_with fail
    go_ret2
    rw [HE.out]
    exact ⟨_, rfl, World.ownsRow_nil _ _ _ _, Below.refl _ _⟩
  obtain ⟨h1, x, hx⟩ := (isTree_iff t).1 h
  have H := Lib.hid h; clear h
  subst hx
  have hnn : x.nodes ≤ 2000 := by rw [← T.length_enc]; exact h1
  have HN : Hid (x.nodes = n1) := by have := HL1.out; rw [T.length_enc] at this; exact this
  have hn3 : n1 ≤ 2000 := by have := HN.out; omega
  clear h1
  have HPE := Lib.hid (partAt_enc x p hnn)
  rcases Bool.eq_false_or_eq_true (pathOk p) with hp | hp
  rotate_left
  · have HE : Hid (partAt x.enc p = ([], 2)) := by unfold Hid; rw [HPE.out, hp]; rfl
    have HP := Lib.hid hp; clear hp
    have HA : Hid (Calls Try.prog 62 #[.slice (some ⟨b1, o1, none⟩) n1 c1, .slice (some ⟨b2, o2, none⟩) n2 c2] w fun e w' => e = .returned (.tuple #[.int .i64 0, .int .i64 2]) ∧ w = w') := by
      go_enter Try.func62, Try.ntmps62
      go_wp2_with fail
      refine (l21Is_is b1 o1 n1 c1 x.enc true H.out _ hs1 HL1.out (by omega)).mono ?_
      rintro e w' ⟨rfl, rfl⟩
      go_wp2_with fail
      refine (l21Path_is b2 o2 n2 c2 p false HP.out _ hs2 HL2.out hn2).mono ?_
      rintro e w' ⟨rfl, rfl⟩
      go_wp2_with fail
      go_ret2
      exact ⟨rfl, rfl⟩
    go_enter Try.func16, Try.ntmps16
    go_wp2_with fail
    refine HA.out.mono ?_
    rintro e w' ⟨rfl, rfl⟩
    go_wp2_with fail
    go_ret2
    rw [HE.out]
    exact ⟨_, rfl, World.ownsRow_nil _ _ _ _, Below.refl _ _⟩
  obtain ⟨hp100, hpd⟩ := pathOk_facts hp
  rw [HL2.out] at hp100
  have HPO : Hid (partAt x.enc p = partOf x p) := by unfold Hid; rw [HPE.out, hp]; rfl
  have HP := Lib.hid hp; have HPD := Lib.hid hpd
  clear hp hpd
  have HA : Hid (Calls Try.prog 62 #[.slice (some ⟨b1, o1, none⟩) n1 c1, .slice (some ⟨b2, o2, none⟩) n2 c2] w fun e w' => AskRet x p e ∧ w = w') := by
    go_enter Try.func62, Try.ntmps62
    go_wp2_with fail
    refine (l21Is_is b1 o1 n1 c1 x.enc true H.out _ hs1 HL1.out (by omega)).mono ?_
    rintro e w' ⟨rfl, rfl⟩
    go_wp2_with fail
    refine (l21Path_is b2 o2 n2 c2 p true HP.out _ hs2 HL2.out hn2).mono ?_
    rintro e w' ⟨rfl, rfl⟩
    go_wp2_with fail
    refine (l21Go_any b1 o1 n1 c1 x b2 o2 n2 c2 p _ hs1 HN.out hn3 hs2 HL2.out hp100 HPD.out).mono ?_
    rintro e w' ⟨⟨at_, ok, rfl, hgo⟩, rfl⟩
    have HGO := Lib.hid hgo; clear hgo
    cases ok with
    | true =>
      go_wp2_with fail
      go_ret2
      obtain ⟨y, r, h1, h2⟩ := HGO.out.1 rfl
      exact ⟨askRet_yes h1 h2 rfl, rfl⟩
    | false =>
      go_wp2_with fail
      go_ret2
      exact ⟨askRet_no (HGO.out.2 rfl) rfl, rfl⟩
  go_enter Try.func16, Try.ntmps16
  go_wp2_with fail
  refine HA.out.mono ?_
  rintro e w' ⟨hcase, rfl⟩
  rcases hcase with ⟨hnone, rfl⟩ | ⟨at_, y, r, hsome, hdr, rfl⟩
  · have HE : Hid (partAt x.enc p = ([], 3)) := by unfold Hid; rw [HPO.out]; unfold partOf; rw [hnone]
    clear hnone
    go_wp2_with fail
    go_ret2
    rw [HE.out]
    exact ⟨_, rfl, World.ownsRow_nil _ _ _ _, Below.refl _ _⟩
  · have HE : Hid (partAt x.enc p = (y.enc, 0)) := by unfold Hid; rw [HPO.out]; unfold partOf; rw [hsome]
    have hlen := congrArg List.length hdr
    rw [List.length_drop, HL1.out, List.length_append, T.length_enc] at hlen
    have hyp := y.nodes_pos
    obtain ⟨m, hm⟩ : ∃ m, m = y.nodes := ⟨_, rfl⟩
    rw [← hm] at hlen hyp
    obtain ⟨o', ho', hsl⟩ := run_slice_part (P := Try.prog) 22 4 Try.underlying22 infoBoolS b1 o1 n1 c1 at_ m (at_ : Int) ((at_ : Int) + (m : Int)) rfl (by omega) (by omega)
    have hsrc : Src 1 w (.slice (some ⟨b1, o', none⟩) m (c1 - at_)) m (y.enc.map .bool) := by
      have ho2 : o' = o1 + at_ * 1 := by omega
      subst ho2
      refine Src.of_sl ⟨hs1.1, fun j u hu => ?_⟩ (by simp [T.length_enc, hm])
      have hj : j < y.enc.length := by have := (List.getElem?_eq_some_iff.1 hu).1; simpa using this
      rw [show o1 + at_ * 1 + j = o1 + (at_ + j) by omega]
      refine hs1.2 (at_ + j) u ?_
      rw [List.getElem?_map, ← List.getElem?_drop, hdr, List.getElem?_append_left hj, ← List.getElem?_map]
      exact hu
    have HSRC := Lib.hid hsrc; have HDR := Lib.hid hdr; have HM := Lib.hid hm
    clear hsrc hdr hm hsome ho'
    go_wp2_with fail
    refine (l21End_enc b1 o1 n1 c1 at_ x.enc y r _ HDR.out hs1 HL1.out (by omega) (by omega)).mono ?_
    rintro e w1 ⟨rfl, rfl⟩
    rw [← HM.out]
    go_wp2_with fail
    refine (l21Own_any _ m y.enc w HSRC.out (by omega)).mono ?_
    rintro e w1 ⟨v1, rfl, hown1, hb1⟩
    go_wp2_with fail
    go_ret2
    rw [HE.out]
    exact ⟨_, rfl, by rw [T.length_enc, ← HM.out]; exact hown1, hb1⟩
end Go.Proofs.Ytffcggagjeoagaa
