/- The list of a tree: the reference's l21Items, the program's listOfTree; NumberOfTree on both sides. -/
import Derived.Test.YtffcggagjeoagaaTreeHeap
import Derived.Test.YtffcggagjeoagaaTreeDepth
import Derived.Test.YtffcggagjeoagaaTreeParse
import Derived.Test.YtffcggagjeoagaaInBoolS
import Derived.Deep.LoopGhost
namespace Go.Proofs.Ytffcggagjeoagaa
open Go.RowKit
set_option linter.all false

theorem endAt_enc {t : List Bool} {k : Nat} {a : T} {r : List Bool} (h : t.drop k = a.enc ++ r) : endAt t k = (t.length - r.length, true) := by
  unfold endAt
  rw [h, scan_one_enc]
/-- Where the tree a, which stands at place k of t, ends. -/
theorem l21End_enc (b off n c k0 : Nat) (t : List Bool) (a : T) (r : List Bool) (w : World) (hd : t.drop k0 = a.enc ++ r) (hs : Sl w b off (t.map .bool)) (hl : t.length = n) (hn : n ≤ 4194304) (hk0 : k0 ≤ n) :
    Calls Try.prog 63 #[.slice (some ⟨b, off, none⟩) n c, .int .i64 k0] w fun e w' => e = .returned (.tuple #[.int .i64 ((k0 + a.nodes : Nat) : Int), .bool true]) ∧ w = w' := by
  have h := l21End_any b off n c k0 t w hs hl hn hk0
  have e : endAt t k0 = (k0 + a.nodes, true) := by
    rw [endAt_enc hd]
    have := congrArg List.length hd
    rw [List.length_drop, List.length_append, T.length_enc] at this
    congr 1
    omega
  rw [e] at h
  exact h

theorem l21Own_any (v0 : Value) (n : Nat) (t : List Bool) (w : World) (hsrc : Src 1 w v0 n (t.map .bool)) (hn : n ≤ 4194304) :
    Calls Try.prog 64 #[v0] w fun e w' => ∃ v, e = .returned v ∧ w'.ownsRow w.heap.size 4 1 v n (t.map .bool) ∧ Below w.heap.size w w' := by
  have hown0 : (w.alloc (.cells #[] 4)).ownsRow w.heap.size 4 1 (.slice (some ⟨w.heap.size, 0, none⟩) 0 0) 0 [] := World.ownsRow_made _ #[] 0 (Nat.le_refl _) (by simp [maxLen]) rfl
  have hb0 := laid_below w (.cells #[] 4)
  have hs0 := hsrc.below hb0
  have HO := Lib.hid (one_bools t)
  go_enter Try.func64, Try.ntmps64
  go_wp2_with (at_builtin; refine wpList_appx rfl _ _ _ rfl Try.underlying22 infoBoolS rfl (by omega) w.heap.size hown0 hb0.size rfl hs0 rfl HO.out (by unfold maxLen; omega) (by omega) ?_; intro v1 w1 hown1 hg1 hnil1; have hb1 := grown_below hb0 hown0 (Nat.le_refl _) hg1)
  go_ret
  exact ⟨_, rfl, by simpa using hown1, hb1⟩

theorem infoBoolSS' : (Try.prog.info? 22).map (fun i => (i.zero, i.size, i.bytes)) = some (some (.slice none 0 0), 1, 24) := by kernel_rfl

/-- The rows of lists of nodes. -/
def bRows (ts : List T) : List (Nat × List Value) := itsOf oneB (ts.map T.enc)
theorem bRows_snoc (ts : List T) (a : T) : bRows (ts ++ [a]) = bRows ts ++ [(a.nodes, a.enc.map .bool)] := by
  unfold bRows itsOf
  rw [List.map_append, List.map_append]
  congr 1
  show [(a.enc.length, rows oneB a.enc)] = _
  rw [T.length_enc, rows_oneB]

/-- A list of trees in the making. -/
structure Items (lo : Nat) (v : Value) (ts : List T) (us : List Value) (w : World) : Prop where
  own : w.ownsRow lo 22 1 v ts.length us
  inn : Inn 1 4 lo w.heap.size us (bRows ts) w

set_option maxRecDepth 100000 in
set_option maxHeartbeats 1000000 in
theorem l21Items_any (b off n c : Nat) (x : T) (w : World) (hs : Sl w b off (x.enc.map .bool)) (hl : x.nodes = n) (hn : n ≤ 2000) (hc : n ≤ c) :
    Calls Try.prog 69 #[.slice (some ⟨b, off, none⟩) n c] w fun e w' => ∃ v us, e = .returned v ∧ Items w.heap.size v x.spine us w' ∧ Below w.heap.size w w' := by
  have HL : Hid (x.enc.length = n) := by unfold Hid; rw [T.length_enc, hl]
  obtain ⟨sl1, _⟩ := spine_le x
  have HSP := Lib.hid (show 2 * x.spine.length + 1 ≤ n by omega)
  clear sl1 hl
  go_enter Try.func69, Try.ntmps69
  go_wp2
  go_loopg [3, 4] x.spine.length (fun g v i wr => ∃ (k : Nat) (done : List T) (y : T) (us : List Value), i = .int .i64 k ∧ k + y.nodes = n ∧ g = y.spine.length ∧ Hid (x.enc.drop k = y.enc ∧ x.spine = done ++ y.spine) ∧ Items w.heap.size v done us wr ∧ Below w.heap.size w wr)
  case atStart => exact ⟨0, [], x, [], rfl, by have := HL.out; rw [T.length_enc] at this; omega, rfl, ⟨by rw [List.drop_zero], rfl⟩, ⟨World.ownsRow_made _ #[] 0 (Nat.le_refl _) (by simp [maxLen]) rfl, Inn.nil _ _ _ _ _⟩, laid_below _ _⟩
  case round =>
    obtain ⟨k, done, y, us, rfl, hky, rfl, HR, hit, hB⟩ := hrel
    have hyp := y.nodes_pos
    have hkn : k < n := by omega
    cases y with
    | nil =>
      have hx : x.enc[k]? = some false := by
        have := (drop_head (l := x.enc) (k := k) (x := false) (r := []) HR.out.1).1
        exact this
      have hca := (hs.below' hB).at (j := k) (u := .bool false) (by rw [List.getElem?_map, hx]; rfl)
      clear hx
      have HIT := Lib.hid hit; clear hit
      go_wp2
      go_ret
      have e : x.spine = done := by have := HR.out.2; simpa [T.spine] using this
      rw [e]
      exact ⟨_, _, rfl, HIT.out, hB⟩
    | pair a d =>
      have hn1 : (T.pair a d).nodes = 1 + a.nodes + d.nodes := rfl
      rw [hn1] at hky
      have hsp1 : (T.pair a d).spine = a :: d.spine := rfl
      obtain ⟨hx, hd1, _⟩ := drop_head (l := x.enc) (k := k) (x := true) (r := a.enc ++ d.enc) HR.out.1
      have hd2 : x.enc.drop (k + 1 + a.nodes) = d.enc := by
        rw [← List.drop_drop, hd1, ← T.length_enc, List.drop_left]
      have hca := (hs.below' hB).at (j := k) (u := .bool true) (by rw [List.getElem?_map, hx]; rfl)
      have HD1 := Lib.hid hd1; have HD2 := Lib.hid hd2
      have HSL := Lib.hid (hs.below' hB)
      have hdone : 2 * done.length + 3 ≤ n := by have h1 := HSP.out; have h2 := HR.out.2; rw [h2] at h1; simp [T.spine] at h1; omega
      have hap := a.nodes_pos
      obtain ⟨m, hm⟩ : ∃ m, m = a.nodes := ⟨_, rfl⟩
      rw [← hm] at hky hap
      obtain ⟨o', ho', hsl⟩ := run_slice_part (P := Try.prog) 22 4 Try.underlying22 infoBoolS b off n c (k + 1) m ((k : Int) + 1) ((k : Int) + 1 + (m : Int)) (by omega) (by omega) (by omega)
      have hsrc : Src 1 wr (.slice (some ⟨b, o', none⟩) m (c - (k + 1))) m (a.enc.map .bool) := by
        have ho2 : o' = off + (k + 1) * 1 := by omega
        subst ho2
        refine Src.of_sl ⟨HSL.out.1, fun j u hu => ?_⟩ (by simp [T.length_enc, hm])
        have hj : j < a.enc.length := by have := (List.getElem?_eq_some_iff.1 hu).1; simpa using this
        rw [show off + (k + 1) * 1 + j = off + (k + 1 + j) by omega]
        refine HSL.out.2 (k + 1 + j) u ?_
        rw [List.getElem?_map, ← List.getElem?_drop, HD1.out, List.getElem?_append_left hj, ← List.getElem?_map]
        exact hu
      have HSRC := Lib.hid hsrc; clear hsrc
      have HM := Lib.hid hm
      obtain ⟨hown, hinn⟩ := hit
      obtain ⟨ld, hld⟩ : ∃ ld, ld = done.length := ⟨_, rfl⟩
      rw [← hld] at hown hdone
      obtain ⟨A1, c1, rfl⟩ := own_form hown
      have HLD := Lib.hid hld
      clear hx hd1 hd2 hm hld ho'
      go_wp2_with fail
      refine (l21End_enc b off n c (k + 1) x.enc a d.enc wr HD1.out HSL.out HL.out (by omega) (by omega)).mono ?_
      rintro e w1 ⟨rfl, rfl⟩
      rw [← HM.out]
      go_wp2_with fail
      refine (l21Own_any _ m a.enc wr HSRC.out (by omega)).mono ?_
      rintro e w1 ⟨v1, rfl, hown1, hb1⟩
      obtain ⟨A2, c2, rfl⟩ := own_form hown1
      have hown2 := own_below' hown hb1
      have hinn1 := (hinn.below hb1).snoc (it := (m, a.enc.map .bool)) hown1 (Nat.le_refl _) hB.size (Nat.le_refl _) hb1.size
      have hB1 := below_step hB hb1
      clear hown hinn hown1 hb1 hca hsl
      go_wp2_with (at_builtin; refine wpList_appg rfl _ _ _ rfl Try.underlying36 infoBoolSS' rfl (by omega) w.heap.size w1 hown2 hB1.size rfl 1 #[.slice A2 m c2] rfl (laid_below _ _) (heap_alloc_new _ _) rfl (by simp [Value.oneCell']) (by omega) (by unfold maxLen; omega) (by omega) ?_; intro g cap w2 hown3 hg3; have hinn3 := Lib.hid ((hinn1.kept hown2 hg3 (by decide)).wide hg3.size); have hB3 := hB1.grown hg3 hB1.size (fun j hj => (hown2.lt j hj).1); clear hinn1 hown2 hg3 hB1)
      go_roundg (d.spine.length)
      case measure => simp [T.spine]
      case rel =>
        refine ⟨k + 1 + m, done ++ [a], d, us ++ [.slice A2 m c2], by first | rfl | go_num, by omega, rfl, ⟨by rw [HM.out]; exact HD2.out, by rw [HR.out.2]; simp [T.spine]⟩, ⟨?_, ?_⟩, hB3⟩
        · rw [List.length_append, ← HLD.out]; exact hown3
        · rw [bRows_snoc, ← HM.out]; exact hinn3.out
end Go.Proofs.Ytffcggagjeoagaa
