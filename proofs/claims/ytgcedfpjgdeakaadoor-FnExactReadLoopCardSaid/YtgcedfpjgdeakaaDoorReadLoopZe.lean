/- The law FnExactReadLoop returns true for every input, and each argument reads afterwards as before: the proof, part 5. No conditions. -/
import Derived.Test.YtgcedfpjgdeakaaDoorReadLoopZd
import Derived.Lib.UnsafeStr
import Derived.Laws.BytesString
import Derived.Test.YtgcedfpjgdeakaaDoorJoinLay
import Derived.Deep.RegionLaw
/- Reading the text of a loop program, by the reference: l17Parse. -/
namespace Go.Proofs.YtgcedfpjgdeakaaDoor
open Go.RowKit
set_option linter.all false

def PsPost (L : List UInt8) (o : Option (List R3 × List UInt8)) (w : World) : Ending → World → Prop := fun e w' =>
  (∃ q : Int, o = none ∧ e = .returned (.tuple #[.slice none 0 0, .int .i64 q, .bool false]) ∧ Below w.heap.size w w') ∨
  ∃ (A : Option Addr) (n c q : Nat) (l : List R3) (r : List UInt8), o = some (l, r) ∧ e = .returned (.tuple #[.slice A n c, .int .i64 q, .bool true]) ∧ l.length = n ∧ n ≤ 150 ∧ q ≤ L.length ∧ L.drop q = r ∧ w'.ownsRow w.heap.size 54 3 (.slice A n c) n (rows R3.vs l) ∧ Below w.heap.size w w'
theorem PsPost.fail {L : List UInt8} {o : Option (List R3 × List UInt8)} {w w' : World} (q : Int) (h : o = none) (b : Below w.heap.size w w') : PsPost L o w (.returned (.tuple #[.slice none 0 0, .int .i64 q, .bool false])) w' := .inl ⟨q, h, rfl, b⟩
theorem ploop_none {body : List UInt8 → Option (List R3 × List UInt8)} {n : Nat} {ts : List R3} {S : List UInt8} (h : oneS body S = none) : ploop body (n + 1) ts S = none := by rw [ploop, h]; rfl
theorem ploop_long {body : List UInt8 → Option (List R3 × List UInt8)} {n : Nat} {ts : List R3} {S : List UInt8} {x : R3} {b : List R3} {q : List UInt8} (h : oneS body S = some (x, b, q)) (hl : 150 < (ts ++ [x] ++ b).length) : ploop body (n + 1) ts S = none := by rw [ploop, h, Option.bind_some, if_pos hl]
theorem ploop_next {body : List UInt8 → Option (List R3 × List UInt8)} {n : Nat} {ts : List R3} {S : List UInt8} {x : R3} {b : List R3} {q : List UInt8} (h : oneS body S = some (x, b, q)) (hl : ¬ 150 < (ts ++ [x] ++ b).length) (hq : q.headD 0 = 59) : ploop body (n + 1) ts S = ploop body n (ts ++ [x] ++ b) q.tail := by rw [ploop, h, Option.bind_some, if_neg hl, if_pos hq]
theorem ploop_done {body : List UInt8 → Option (List R3 × List UInt8)} {n : Nat} {ts : List R3} {S : List UInt8} {x : R3} {b : List R3} {q : List UInt8} (h : oneS body S = some (x, b, q)) (hl : ¬ 150 < (ts ++ [x] ++ b).length) (hq : q.headD 0 ≠ 59) : ploop body (n + 1) ts S = some (ts ++ [x] ++ b, q) := by rw [ploop, h, Option.bind_some, if_neg hl, if_neg hq]
theorem oneS_sign_no (body : List UInt8 → Option (List R3 × List UInt8)) {S : List UInt8} (h : S.headD 0 = 33 ∨ S.headD 0 = 43) (hn : (smallS S.tail).1 < 0) : oneS body S = none := by unfold oneS; rw [if_pos h, if_pos hn]
theorem oneS_num (body : List UInt8 → Option (List R3 × List UInt8)) {S : List UInt8} (h : ¬ (S.headD 0 = 33 ∨ S.headD 0 = 43)) (hn : ¬ (smallS S).1 < 0) : oneS body S = restS body (smallS S).1 (smallS S).2 := by unfold oneS; rw [if_neg h, if_neg hn]
theorem oneS_num_no (body : List UInt8 → Option (List R3 × List UInt8)) {S : List UInt8} (h : ¬ (S.headD 0 = 33 ∨ S.headD 0 = 43)) (hn : (smallS S).1 < 0) : oneS body S = none := by unfold oneS; rw [if_neg h, if_pos hn]
theorem restS_eq (body : List UInt8 → Option (List R3 × List UInt8)) (n : Int) (q : List UInt8) : restS body n (61 :: q) = if (smallS q).1 < 0 then none else some (⟨2, n, (smallS q).1⟩, [], (smallS q).2) := by
  unfold restS
  rw [List.headD_cons, if_pos rfl, List.tail_cons]
theorem restS_no (body : List UInt8 → Option (List R3 × List UInt8)) (n : Int) {c : UInt8} (q : List UInt8) (h61 : c ≠ 61) (h42 : c ≠ 42) (h63 : c ≠ 63) : restS body n (c :: q) = none := by
  unfold restS
  rw [List.headD_cons, if_neg h61, if_neg (by intro e; rcases e with e | e; exact h42 e; exact h63 e)]
theorem restS_body (body : List UInt8 → Option (List R3 × List UInt8)) (n : Int) {c : UInt8} (q : List UInt8) (h : c = 42 ∨ c = 63) : restS body n (c :: q) = if q.headD 0 = 40 then closeS (if c = 63 then 4 else 3) n (body q.tail) else none := by
  unfold restS
  rw [List.headD_cons, if_neg (by rcases h with rfl | rfl <;> decide), if_pos h, List.tail_cons]
theorem drop_tail {L S : List UInt8} {p : Nat} {c : UInt8} (h : L.drop p = S) (hc : S.headD 0 = c) (h0 : c ≠ 0) : p + 1 ≤ L.length ∧ S = c :: S.tail ∧ L.drop (p + 1) = S.tail := by
  cases S with
  | nil => exact absurd (by simpa using hc.symm) h0
  | cons b r =>
    have hl := congrArg List.length h
    rw [List.length_drop, List.length_cons] at hl
    refine ⟨by omega, by rw [show c = b from hc.symm]; rfl, ?_⟩
    exact drop_next h
theorem smallS_le (S : List UInt8) : (smallS S).2.length ≤ S.length := (smallS_len S).1
theorem oneS_rest (body : List UInt8 → Option (List R3 × List UInt8)) (hb : ∀ S l r, body S = some (l, r) → r.length ≤ S.length) {S : List UInt8} {x : R3} {b : List R3} {q : List UInt8} (h : oneS body S = some (x, b, q)) : q.length ≤ S.length := by
  have ht : ∀ S : List UInt8, S.tail.length ≤ S.length := fun S => by simp
  unfold oneS at h
  split at h
  · split at h
    · cases h
    · injection h with h; injection h with _ h; injection h with _ h
      rw [← h]; exact Nat.le_trans (smallS_le _) (ht _)
  · split at h
    · cases h
    · have h0 := smallS_le S
      obtain ⟨T, hT⟩ : ∃ T, (smallS S).2 = T := ⟨_, rfl⟩
      rw [hT] at h0 h
      refine Nat.le_trans ?_ h0
      unfold restS at h
      split at h
      · split at h
        · cases h
        · injection h with h; injection h with _ h; injection h with _ h
          rw [← h]; exact Nat.le_trans (smallS_le _) (ht _)
      · split at h
        · split at h
          · unfold closeS at h
            cases hbo : body T.tail.tail with
            | none => rw [hbo] at h; cases h
            | some p =>
              rw [hbo, Option.bind_some] at h
              have h1 := hb _ p.1 p.2 hbo
              split at h
              · injection h with h; injection h with _ h; injection h with _ h
                rw [← h]
                exact Nat.le_trans (ht _) (Nat.le_trans h1 (Nat.le_trans (ht _) (ht _)))
              · cases h
          · cases h
        · cases h
theorem ploop_rest (body : List UInt8 → Option (List R3 × List UInt8)) (hb : ∀ S l r, body S = some (l, r) → r.length ≤ S.length) : ∀ (n : Nat) (ts : List R3) (S : List UInt8) (l : List R3) (r : List UInt8), ploop body n ts S = some (l, r) → r.length ≤ S.length := by
  intro n
  induction n with
  | zero => intro ts S l r h; rw [ploop] at h; cases h
  | succ n ih =>
    intro ts S l r h
    cases ho : oneS body S with
    | none => rw [ploop_none ho] at h; cases h
    | some p =>
      obtain ⟨x, b, q⟩ := p
      have h1 := oneS_rest body hb ho
      by_cases hl : 150 < (ts ++ [x] ++ b).length
      · rw [ploop_long ho hl] at h; cases h
      · by_cases hq : q.headD 0 = 59
        · rw [ploop_next ho hl hq] at h
          have h2 := ih _ _ _ _ h
          rw [List.length_tail] at h2
          omega
        · rw [ploop_done ho hl hq] at h
          injection h with h
          injection h with h2 h3
          rw [← h3]; exact h1
theorem prsS_rest : ∀ (d : Nat) (S : List UInt8) (l : List R3) (r : List UInt8), prsS d S = some (l, r) → r.length ≤ S.length := by
  intro d
  induction d with
  | zero => intro S l r h; rw [prsS] at h; cases h
  | succ d ih =>
    intro S l r h
    rw [prsS] at h
    split at h
    · injection h with h
      injection h with h2 h3
      rw [← h3]; exact Nat.le_refl _
    · exact ploop_rest _ ih _ _ _ _ _ h
theorem prsS_len : ∀ (d : Nat) (S : List UInt8) (l : List R3) (r : List UInt8), prsS d S = some (l, r) → l.length ≤ 150 := by
  have hp : ∀ (body : List UInt8 → Option (List R3 × List UInt8)) (n : Nat) (ts : List R3) (S : List UInt8) (l : List R3) (r : List UInt8), ploop body n ts S = some (l, r) → l.length ≤ 150 := by
    intro body n
    induction n with
    | zero => intro ts S l r h; rw [ploop] at h; cases h
    | succ n ih =>
      intro ts S l r h
      cases ho : oneS body S with
      | none => rw [ploop_none ho] at h; cases h
      | some p =>
        obtain ⟨x, b, q⟩ := p
        by_cases hl : 150 < (ts ++ [x] ++ b).length
        · rw [ploop_long ho hl] at h; cases h
        · by_cases hq : q.headD 0 = 59
          · rw [ploop_next ho hl hq] at h; exact ih _ _ _ _ h
          · rw [ploop_done ho hl hq] at h
            injection h with h
            injection h with h1 h2
            rw [← h1]; omega
  intro d S l r h
  cases d with
  | zero => rw [prsS] at h; cases h
  | succ d =>
    rw [prsS] at h
    split at h
    · injection h with h
      injection h with h1 h2
      rw [← h1]; simp
    · exact hp _ _ _ _ _ _ h

set_option maxRecDepth 100000 in
set_option maxHeartbeats 8000000 in
theorem l17Parse_any (s : ByteArray) (L : List UInt8) (hs : s.data.toList = L) (hL : L.length ≤ 1048576) : ∀ (d : Nat) (p0 : Nat) (S : List UInt8) (dep : Int) (w : World), L.drop p0 = S → p0 ≤ L.length → dep + d = 8 → d ≤ 8 →
    Calls Tryd.prog 34 #[.string s, .int .i64 p0, .int .i64 dep] w (PsPost L (prsS d S) w) := by
  have hsz : s.size = L.length := by rw [← hs]; simp
  have HS := Lib.hid hs
  clear hs
  intro d
  induction d with
  | zero =>
    intro p0 S dep w hS hp hdep hd
    have h8 : (7 : Int) < dep := by omega
    obtain ⟨wa, HWA, BA, xA⟩ := al1 w (.cells #[] 54)
    have FIN : Hid (PsPost L (prsS 0 S) w (.returned (.tuple #[.slice none 0 0, .int .i64 p0, .bool false])) wa) := PsPost.fail _ (by rw [prsS]) BA
    clear BA xA hS
    go_enter Tryd.func34, Tryd.ntmps34
    go_wp2_with fail
    rw [← HWA.out]
    go_ret3
    exact FIN.out
  | succ d ih =>
    intro p0 S dep w hS hp hdep hd
    have IH : Hid (∀ (p : Nat) (S : List UInt8) (w : World), L.drop p = S → p ≤ L.length → Calls Tryd.prog 34 #[.string s, .int .i64 p, .int .i64 (dep + 1)] w (PsPost L (prsS d S) w)) := fun p S w h1 h2 => ih p S (dep + 1) w h1 h2 (by omega) (by omega)
    have h8 : ¬ (7 : Int) < dep := by omega
    have hd0 : 0 ≤ dep := by omega
    obtain ⟨wa, HWA, BA, xA⟩ := al1 w (.cells #[] 54)
    have HO0 : Hid (wa.ownsRow w.heap.size 54 3 (.slice (some ⟨w.heap.size, 0, none⟩) 0 0) 0 (rows R3.vs [])) := by
      have := own_of_block (n := 0) (cap := 0) (s := 3) (xs := []) (base := w.heap.size) xA (Nat.le_refl _) rfl (Nat.le_refl _) (Nat.zero_le _)
      rw [List.take_nil] at this
      exact this
    have HBA := Lib.hid BA
    have HS0 := Lib.hid hS
    clear BA xA ih
    by_cases hz : S = [] ∨ S.headD 0 = 41
    · have FIN : Hid (PsPost L (prsS (d + 1) S) w (.returned (.tuple #[.slice (some ⟨w.heap.size, 0, none⟩) 0 0, .int .i64 p0, .bool true])) wa) :=
        .inr ⟨_, 0, 0, p0, [], S, by rw [prsS, if_pos hz], rfl, rfl, by omega, hp, hS, HO0.out, HBA.out⟩
      cases S with
      | nil =>
        have hle : p0 = L.length := by have := congrArg List.length hS; rw [List.length_drop, List.length_nil] at this; omega
        have hee : ((p0 : Int) == (s.size : Int)) = true := by rw [beq_iff_eq]; omega
        clear hS hz
        subst hle
        go_enter Tryd.func34, Tryd.ntmps34
        go_wp2_with fail
        rw [← HWA.out]
        go_ret3
        exact FIN.out
      | cons b r =>
        have hb : b = 41 := by rcases hz with e | e; cases e; exact e
        subst hb
        obtain ⟨h1, h2⟩ := str_at HS.out hS
        have hee : ((p0 : Int) == (s.size : Int)) = false := by rw [beq_eq_false_iff_ne]; omega
        have h41 : ((s[p0].toNat : Int) == 41) = true := by rw [h2]; rfl
        have hlt : (p0 : Int) < (s.size : Int) := by omega
        clear hS hz h2
        go_enter Tryd.func34, Tryd.ntmps34
        go_wp2_with fail
        rw [← HWA.out]
        go_ret3
        exact FIN.out
    have HPR : Hid (prsS (d + 1) S = ploop (prsS d) (S.length + 1) [] S) := by unfold Hid; rw [prsS, if_neg hz]
    obtain ⟨b, r, hbr⟩ : ∃ b r, S = b :: r := by
      cases S with
      | nil => exact absurd (.inl rfl) hz
      | cons b r => exact ⟨b, r, rfl⟩
    have hb41 : b ≠ 41 := fun e => hz (.inr (by rw [hbr, e]; rfl))
    obtain ⟨h1, h2⟩ := str_at HS.out (hS.trans hbr)
    have hee : ((p0 : Int) == (L.length : Int)) = false := by rw [beq_eq_false_iff_ne]; omega
    have h41 : ((s[p0].toNat : Int) == 41) = false := by rw [h2, beq_eq_false_iff_ne]; intro e; exact hb41 (UInt8.toNat_inj.1 (by have : (b.toNat : Int) = 41 := e; show b.toNat = 41; omega))
    have hlt : (p0 : Int) < (s.size : Int) := by omega
    clear hS hz h2 hbr
    go_enter Tryd.func34, Tryd.ntmps34
    go_wp2_with fail
    rw [← HWA.out]
    go_loopw [1, 9] (fun i o wr => ∃ (p : Nat) (S2 : List UInt8) (n : Nat) (V : Value) (ts : List R3), V = o ∧ i = .int .i64 p ∧ p ≤ L.length ∧ Hid (L.drop p = S2) ∧ S2.length < n ∧ ts.length ≤ 150 ∧ Hid (prsS (d + 1) S = ploop (prsS d) n ts S2) ∧ Hid (wr.ownsRow w.heap.size 54 3 V ts.length (rows R3.vs ts)) ∧ Hid (Below w.heap.size w wr)) (fun i _ _ => L.length + 1 - (intOf i).toNat)
    case atStart => exact ⟨p0, S, S.length + 1, _, [], rfl, rfl, hp, HS0, Nat.lt_succ_self _, by simp, HPR, HO0, HBA⟩
    case round =>
      obtain ⟨p, S2, n, V, ts, rfl, rfl, hpl, HSD, hSn, hts, HPL, HO, HB⟩ := hrel
      clear HO0 HBA HS0 HPR h41 hee hlt h1
      obtain ⟨lt, hlt⟩ : ∃ m, ts.length = m := ⟨_, rfl⟩
      have HLT := Lib.hid hlt
      have own := HO.out
      rw [hlt] at own hts
      obtain ⟨AV, cV, hAV⟩ := own_form own
      subst hAV
      obtain ⟨n', hn'⟩ : ∃ n', n = n' + 1 := ⟨n - 1, by omega⟩
      have HNN := Lib.hid hn'
      have FAIL : Hid (oneS (prsS d) S2 = none → ∀ (q : Int) (W : World), Below w.heap.size w W → PsPost L (prsS (d + 1) S) w (.returned (.tuple #[.slice none 0 0, .int .i64 q, .bool false])) W) := by
        intro h q W hb
        exact PsPost.fail q (by rw [HPL.out, HNN.out, ploop_none h]) hb
      obtain ⟨w1, w2, HW1, HW2, B2, x1, x2⟩ : ∃ w1 w2 : World, Hid (w1 = wr.alloc (.cells #[.int .i64 0, .int .i64 0, .int .i64 0] 54)) ∧ Hid (w2 = w1.alloc (.cells #[] 54)) ∧ Below wr.heap.size wr w2 ∧ w2.heap[wr.heap.size]? = some (.cells #[.int .i64 0, .int .i64 0, .int .i64 0] 54) ∧ w2.heap[wr.heap.size + 1]? = some (.cells #[] 54) := by
        obtain ⟨w1, HW1, b1, x1⟩ := al1 wr (.cells #[.int .i64 0, .int .i64 0, .int .i64 0] 54)
        obtain ⟨w2, HW2, b2, x2⟩ := al1 w1 (.cells #[] 54)
        refine ⟨w1, w2, HW1, HW2, below_step b1 b2, (b2.block _ (heap_lt x1)).trans x1, ?_⟩
        have hz : w1.heap.size = wr.heap.size + 1 := by rw [HW1.out]; simp
        rw [← hz]; exact x2
      have HB2 := Lib.hid B2
      have HX1 := Lib.hid x1; have HX2 := Lib.hid x2
      clear B2 x1 x2 hlt hn'
      by_cases hsg : S2.headD 0 = 33 ∨ S2.headD 0 = 43
      · rcases hsg with hc | hc
        · obtain ⟨hp1, hSc, hdt⟩ := drop_tail HSD.out hc (by decide)
          have HDT := Lib.hid hdt
          obtain ⟨hps, hsb⟩ := str_at HS.out (HSD.out.trans hSc)
          have hpsI : (p : Int) < (s.size : Int) := by omega
          have hc43 : ((s[p].toNat : Int) == 43) = false := by rw [hsb]; rfl
          have HC1 := Lib.hid (fun W => l11Byte_any s L HS.out p S2 HSD.out 33 33 rfl (by decide) ⟨by omega, hL⟩ true (by rw [hc]; rfl) W)

          obtain ⟨z, hzz⟩ : ∃ z, (smallS S2.tail).1 = z := ⟨_, rfl⟩
          obtain ⟨T, hTT⟩ : ∃ T, (smallS S2.tail).2 = T := ⟨_, rfl⟩
          have HZ := Lib.hid hzz; have HTT := Lib.hid hTT
          have HSM := Lib.hid (fun W => l17Small_any s L HS.out (p + 1) S2.tail HDT.out ⟨hp1, hL⟩ W)
          have hwp : IntKind.i64.wrap ((p : Int) + 1) = ((p + 1 : Nat) : Int) := (IntWalk.i64_in _ (by omega)).trans (by omega)
          have HHC := Lib.hid hc
          have HSC := Lib.hid hSc
          clear hSc hdt hsb hzz hTT hc
          go_wp2_with fail
          rw [← HW1.out, ← HW2.out]
          refine (HC1.out _).mono ?_
          rintro e w9 ⟨rfl, rfl⟩
          go_wp2_with fail
          refine (HSM.out _).mono ?_
          rintro e wa3 ⟨q2, rfl, hq2, hqd, b3⟩
          rw [HZ.out]
          have HT2 : Hid (L.drop q2 = T) := by unfold Hid; rw [hqd, HTT.out]
          have hpq : p + 1 ≤ q2 := by
            have h1 := (smallS_len S2.tail).1
            rw [HTT.out, ← HT2.out, ← HDT.out, List.length_drop, List.length_drop] at h1
            omega
          have y3 := (b3.block _ (heap_lt HX1.out)).trans HX1.out
          have p1 : wa3.cell? ⟨wr.heap.size, 1, none⟩ = some (.int .i64 0) := by rw [cell_of_heap y3]; rfl
          have f1 : wa3.frozen? ⟨wr.heap.size, 1, none⟩ = false := frozen_of_heap y3
          have oB : w2.ownsRow (wr.heap.size + 1) 54 3 (.slice (some ⟨wr.heap.size + 1, 0, none⟩) 0 0) 0 (rows R3.vs []) := by
            have := own_of_block (n := 0) (cap := 0) (s := 3) (xs := []) (base := wr.heap.size + 1) HX2.out (Nat.le_refl _) rfl (Nat.le_refl _) (Nat.zero_le _)
            rw [List.take_nil] at this
            exact this
          have hne9 : ∀ i : Nat, some (⟨wr.heap.size, i, none⟩ : Addr).block ≠ (Value.slice (some ⟨wr.heap.size + 1, 0, none⟩) 0 0).ownBlock := by
            intro i e
            have : wr.heap.size = wr.heap.size + 1 := by injection e
            omega
          obtain ⟨w3, HW3⟩ : ∃ w3, Hid (w3 = wa3.setCell ⟨wr.heap.size, 1, none⟩ (.int .i64 z)) := ⟨_, rfl⟩
          have hz3 : w3.heap.size = wa3.heap.size := by rw [HW3.out]; simp
          have HY3 : Hid (w3.heap[wr.heap.size]? = some (.cells #[.int .i64 0, .int .i64 z, .int .i64 0] 54 (0, 0))) := by unfold Hid; rw [HW3.out]; exact heap_set y3 _
          have hbw3 : Below wr.heap.size wr w3 := by rw [HW3.out]; exact (below_step HB2.out b3).setCell (p := ⟨wr.heap.size, 1, none⟩) (Nat.le_refl _) _
          have OB3 : Hid (w3.ownsRow (wr.heap.size + 1) 54 3 (.slice (some ⟨wr.heap.size + 1, 0, none⟩) 0 0) 0 (rows R3.vs [])) := by unfold Hid; rw [HW3.out]; exact own_setCell (own_below' oB b3) (hne9 1) _
          have HNB : Hid (([] : List R3).length = 0) := rfl
          clear b3 y3 oB hne9 hqd
          rcases Int.lt_or_le z 0 with hzn | hzn
          · have FIN := Lib.hid (FAIL.out (oneS_sign_no _ (by rw [HHC.out]; simp) (by rw [HZ.out]; exact hzn)) (q2 : Int) w3 (below_step HB.out hbw3))
            have g1 : w3.cell? ⟨wr.heap.size, 1, none⟩ = some (.int .i64 z) := by rw [cell_of_heap HY3.out]; rfl
            rw [HW3.out] at g1 FIN
            clear hbw3 own
            go_wp2_with fail
            go_ret3
            exact FIN.out
          · have hznn : ¬ z < 0 := by omega
            have HONE : Hid (oneS (prsS d) S2 = some (⟨0, z, 0⟩, [], T)) := by
              unfold Hid
              rw [HSC.out, oneS_sign _ (.inl rfl) _ (show smallS S2.tail = (z, T) by rw [← HZ.out, ← HTT.out]) hznn]
              rfl
            clear hzn
            obtain ⟨w4, HW4, b4, x4⟩ := al1 w3 (.cells #[.int .i64 0, .int .i64 z, .int .i64 0] 54)
            have HBW := Lib.hid (below_step hbw3 b4)
            have own4 := own_below' own HBW.out
            have hbz := (below_step HB.out HBW.out).size
            have HNE : Hid (some wr.heap.size ≠ (Value.slice AV lt cV).ownBlock) := by unfold Hid; intro e; have := (own.lt _ e.symm).2; omega
            have src4 : Src 3 w4 (.slice (some ⟨wa3.heap.size, 0, none⟩) 1 1) 1 (rows R3.vs [⟨0, z, 0⟩]) := Src.of_own (own_of_block (n := 1) (cap := 1) (s := 3) (xs := [.int .i64 0, .int .i64 z, .int .i64 0]) (base := 0) (hz3 ▸ x4) (by omega) rfl (by omega) (by unfold maxLen; omega))
            have HY4 := Lib.hid ((b4.block _ (heap_lt HY3.out)).trans HY3.out)
            have OB4 := Lib.hid (own_below' OB3.out b4)
            have HAP6 : Hid ((Value.slice (some ⟨wr.heap.size + 1, 0, none⟩) 0 0).ownBlock = none ∨ (Value.slice (some ⟨wr.heap.size + 1, 0, none⟩) 0 0).ownBlock ≠ (Value.slice AV lt cV).ownBlock) := by
              cases hob : (Value.slice (some ⟨wr.heap.size + 1, 0, none⟩) 0 0).ownBlock with
              | none => exact .inl rfl
              | some g =>
                refine .inr fun e => ?_
                have h1 := (OB3.out.lt _ hob).1
                have h2 := (own.lt _ e.symm).2
                omega
            have g0 : w3.cell? ⟨wr.heap.size, 0, none⟩ = some (.int .i64 0) := by rw [cell_of_heap HY3.out]; rfl
            have g1 : w3.cell? ⟨wr.heap.size, 1, none⟩ = some (.int .i64 z) := by rw [cell_of_heap HY3.out]; rfl
            have g2 : w3.cell? ⟨wr.heap.size, 2, none⟩ = some (.int .i64 0) := by rw [cell_of_heap HY3.out]; rfl
            rw [HW3.out] at g0 g1 g2
            have hw34 : wr.heap.size < w4.heap.size := heap_lt HY4.out
            clear b4 x4 hbw3 own
            go_wp2_with (first
              | (at_builtin; rw [← HW3.out, ← HW4.out]; refine wpList_appy rfl _ _ _ rfl Tryd.underlying22 infoLoop rfl (by omega) w.heap.size own4 hbz rfl src4 rfl (one_rows_R3' _) (by unfold maxLen; omega) (by omega) ?_; intro V5 w5 own5 hg5 hl5; have HY5 := Lib.hid (grown_keep hg5 HY4.out HNE.out); have O65 := Lib.hid (OB4.out.kept hg5 HAP6.out); obtain ⟨A5, c5, rfl⟩ := own_form own5; have HB5 := Lib.hid (grown_below (below_step HB.out HBW.out) own4 (Nat.le_refl _) hg5); rw [← rows_app] at own5; have HO5 : Hid (w5.ownsRow w.heap.size 54 3 (.slice A5 (lt + 1) c5) (lt + 1) (rows R3.vs (ts ++ [⟨0, z, 0⟩]))) := own5; have hown5 := HO5.out; have hbz5 := HB5.out.size; clear own5 hg5 hl5 src4 own4 g0 g1 g2)
              | (at_builtin; refine wpList_appx rfl _ _ _ rfl Tryd.underlying22 infoLoop rfl (by omega) w.heap.size hown5 hbz5 rfl (Src.of_own O65.out) rfl (one_rows_R3' _) (by unfold maxLen; omega) (by omega) ?_; intro V7 w7 own7 hg7 hnil7; rw [Nat.add_zero] at own7; obtain ⟨A7, c7, rfl⟩ := own_form own7; have HB7 := Lib.hid (grown_below HB5.out hown5 (Nat.le_refl _) hg7); rw [← rows_app] at own7; have HO7 : Hid (w7.ownsRow w.heap.size 54 3 (.slice A7 (lt + 1) c7) (lt + 1) (rows R3.vs (ts ++ [⟨0, z, 0⟩] ++ []))) := own7; clear own7 hg7 hnil7 hown5; rcases Nat.lt_or_ge 150 (lt + 1) with hlong | hlong))
            · have FIN := Lib.hid (PsPost.fail (L := L) (q2 : Int) (show prsS (d + 1) S = none by rw [HPL.out, HNN.out, ploop_long HONE.out (by rw [List.length_append, List.length_append, HLT.out, List.length_singleton, HNB.out]; exact hlong)]) HB7.out)
              have hlI : (150 : Int) < ((lt + 1 : Nat) : Int) := by omega
              go_wp2_with fail
              go_ret3
              exact FIN.out
            · have hlI : ¬ (150 : Int) < ((lt + 1 : Nat) : Int) := by omega
              have hlen : ¬ 150 < (ts ++ [(⟨0, z, 0⟩ : R3)] ++ []).length := by rw [List.length_append, List.length_append, HLT.out, List.length_singleton, HNB.out]; omega
              have HLEN := Lib.hid hlen
              have HL11 := Lib.hid (fun W => l11Byte_any s L HS.out q2 T HT2.out 59 59 rfl (by decide) ⟨by omega, hL⟩ _ rfl W)
              clear hlen
              go_wp2_with fail
              refine (HL11.out _).mono ?_
              rintro e w8 ⟨rfl, rfl⟩
              by_cases h59 : T.headD 0 = 59
              · rw [decide_eq_true h59]
                obtain ⟨ht1, ht2, ht3⟩ := drop_tail HT2.out h59 (by decide)
                have HT3 := Lib.hid ht3
                have hT9 : T.length = L.length - q2 := by rw [← HT2.out, List.length_drop]
                have hS9 : S2.length = L.length - p := by rw [← HSD.out, List.length_drop]
                have HNX : Hid (prsS (d + 1) S = ploop (prsS d) n' (ts ++ [⟨0, z, 0⟩] ++ []) T.tail) := by unfold Hid; rw [HPL.out, HNN.out, ploop_next HONE.out HLEN.out h59]
                have hTt : T.tail.length = T.length - 1 := by simp
                have hwq : IntKind.i64.wrap ((q2 : Int) + 1) = (q2 : Int) + 1 := IntWalk.i64_in _ (by omega)
                have hn9 := HNN.out
                clear h59 ht2 ht3
                go_wp2_with fail
                go_roundw
                case rel => exact ⟨q2 + 1, T.tail, n', _, ts ++ [⟨0, z, 0⟩] ++ [], rfl, by go_num, ht1, HT3, by omega, by have := HLEN.out; omega, HNX, by rw [List.length_append, List.length_append, HLT.out, List.length_singleton, HNB.out]; exact HO7, HB7⟩
                case measure => first | (simp [intOf]; done) | (simp [intOf]; omega)
              · rw [decide_eq_false h59]
                have FIN : Hid (PsPost L (prsS (d + 1) S) w (.returned (.tuple #[.slice A7 (lt + 1) c7, .int .i64 q2, .bool true])) w7) :=
                  .inr ⟨A7, lt + 1, c7, q2, ts ++ [⟨0, z, 0⟩] ++ [], T, by rw [HPL.out, HNN.out, ploop_done HONE.out HLEN.out h59], rfl, by rw [List.length_append, List.length_append, HLT.out, List.length_singleton, HNB.out], by omega, hq2, HT2.out, HO7.out, HB7.out⟩
                clear h59
                go_wp2_with fail
                go_ret3
                exact FIN.out
        · obtain ⟨hp1, hSc, hdt⟩ := drop_tail HSD.out hc (by decide)
          have HDT := Lib.hid hdt
          obtain ⟨hps, hsb⟩ := str_at HS.out (HSD.out.trans hSc)
          have hpsI : (p : Int) < (s.size : Int) := by omega
          have hc43 : ((s[p].toNat : Int) == 43) = true := by rw [hsb]; rfl
          have HC1 := Lib.hid (fun W => l11Byte_any s L HS.out p S2 HSD.out 33 33 rfl (by decide) ⟨by omega, hL⟩ false (by rw [hc]; rfl) W)
          have HC2 := Lib.hid (fun W => l11Byte_any s L HS.out p S2 HSD.out 43 43 rfl (by decide) ⟨by omega, hL⟩ true (by rw [hc]; rfl) W)
          obtain ⟨z, hzz⟩ : ∃ z, (smallS S2.tail).1 = z := ⟨_, rfl⟩
          obtain ⟨T, hTT⟩ : ∃ T, (smallS S2.tail).2 = T := ⟨_, rfl⟩
          have HZ := Lib.hid hzz; have HTT := Lib.hid hTT
          have HSM := Lib.hid (fun W => l17Small_any s L HS.out (p + 1) S2.tail HDT.out ⟨hp1, hL⟩ W)
          have hwp : IntKind.i64.wrap ((p : Int) + 1) = ((p + 1 : Nat) : Int) := (IntWalk.i64_in _ (by omega)).trans (by omega)
          have HHC := Lib.hid hc
          have HSC := Lib.hid hSc
          have f0 : w2.frozen? ⟨wr.heap.size, 0, none⟩ = false := frozen_of_heap HX1.out
          have p0 : w2.cell? ⟨wr.heap.size, 0, none⟩ = some (.int .i64 0) := by rw [cell_of_heap HX1.out]; rfl
          clear hSc hdt hsb hzz hTT hc
          go_wp2_with fail
          rw [← HW1.out, ← HW2.out]
          refine (HC1.out _).mono ?_
          rintro e w9 ⟨rfl, rfl⟩
          go_wp2_with fail
          refine (HC2.out _).mono ?_
          rintro e w9 ⟨rfl, rfl⟩
          go_wp2_with fail
          refine (HSM.out _).mono ?_
          rintro e wa3 ⟨q2, rfl, hq2, hqd, b3⟩
          rw [HZ.out]
          have HT2 : Hid (L.drop q2 = T) := by unfold Hid; rw [hqd, HTT.out]
          have hpq : p + 1 ≤ q2 := by
            have h1 := (smallS_len S2.tail).1
            rw [HTT.out, ← HT2.out, ← HDT.out, List.length_drop, List.length_drop] at h1
            omega
          have y3 := (b3.block _ (heap_lt (heap_set HX1.out (i := 0) (.int .i64 1)))).trans (heap_set HX1.out (i := 0) (.int .i64 1))
          have p1 : wa3.cell? ⟨wr.heap.size, 1, none⟩ = some (.int .i64 0) := by rw [cell_of_heap y3]; rfl
          have f1 : wa3.frozen? ⟨wr.heap.size, 1, none⟩ = false := frozen_of_heap y3
          have oB : w2.ownsRow (wr.heap.size + 1) 54 3 (.slice (some ⟨wr.heap.size + 1, 0, none⟩) 0 0) 0 (rows R3.vs []) := by
            have := own_of_block (n := 0) (cap := 0) (s := 3) (xs := []) (base := wr.heap.size + 1) HX2.out (Nat.le_refl _) rfl (Nat.le_refl _) (Nat.zero_le _)
            rw [List.take_nil] at this
            exact this
          have hne9 : ∀ i : Nat, some (⟨wr.heap.size, i, none⟩ : Addr).block ≠ (Value.slice (some ⟨wr.heap.size + 1, 0, none⟩) 0 0).ownBlock := by
            intro i e
            have : wr.heap.size = wr.heap.size + 1 := by injection e
            omega
          obtain ⟨w3, HW3⟩ : ∃ w3, Hid (w3 = wa3.setCell ⟨wr.heap.size, 1, none⟩ (.int .i64 z)) := ⟨_, rfl⟩
          have hz3 : w3.heap.size = wa3.heap.size := by rw [HW3.out]; simp
          have HY3 : Hid (w3.heap[wr.heap.size]? = some (.cells #[.int .i64 1, .int .i64 z, .int .i64 0] 54 (0, 0))) := by unfold Hid; rw [HW3.out]; exact heap_set y3 _
          have hbw3 : Below wr.heap.size wr w3 := by rw [HW3.out]; exact (below_step (HB2.out.setCell (p := ⟨wr.heap.size, 0, none⟩) (Nat.le_refl _) _) b3).setCell (p := ⟨wr.heap.size, 1, none⟩) (Nat.le_refl _) _
          have OB3 : Hid (w3.ownsRow (wr.heap.size + 1) 54 3 (.slice (some ⟨wr.heap.size + 1, 0, none⟩) 0 0) 0 (rows R3.vs [])) := by unfold Hid; rw [HW3.out]; exact own_setCell (own_below' (own_setCell oB (hne9 0) _) b3) (hne9 1) _
          have HNB : Hid (([] : List R3).length = 0) := rfl
          clear b3 y3 oB hne9 hqd
          rcases Int.lt_or_le z 0 with hzn | hzn
          · have FIN := Lib.hid (FAIL.out (oneS_sign_no _ (by rw [HHC.out]; simp) (by rw [HZ.out]; exact hzn)) (q2 : Int) w3 (below_step HB.out hbw3))
            have g1 : w3.cell? ⟨wr.heap.size, 1, none⟩ = some (.int .i64 z) := by rw [cell_of_heap HY3.out]; rfl
            rw [HW3.out] at g1 FIN
            clear hbw3 own
            go_wp2_with fail
            go_ret3
            exact FIN.out
          · have hznn : ¬ z < 0 := by omega
            have HONE : Hid (oneS (prsS d) S2 = some (⟨1, z, 0⟩, [], T)) := by
              unfold Hid
              rw [HSC.out, oneS_sign _ (.inr rfl) _ (show smallS S2.tail = (z, T) by rw [← HZ.out, ← HTT.out]) hznn]
              rfl
            clear hzn
            obtain ⟨w4, HW4, b4, x4⟩ := al1 w3 (.cells #[.int .i64 1, .int .i64 z, .int .i64 0] 54)
            have HBW := Lib.hid (below_step hbw3 b4)
            have own4 := own_below' own HBW.out
            have hbz := (below_step HB.out HBW.out).size
            have HNE : Hid (some wr.heap.size ≠ (Value.slice AV lt cV).ownBlock) := by unfold Hid; intro e; have := (own.lt _ e.symm).2; omega
            have src4 : Src 3 w4 (.slice (some ⟨wa3.heap.size, 0, none⟩) 1 1) 1 (rows R3.vs [⟨1, z, 0⟩]) := Src.of_own (own_of_block (n := 1) (cap := 1) (s := 3) (xs := [.int .i64 1, .int .i64 z, .int .i64 0]) (base := 0) (hz3 ▸ x4) (by omega) rfl (by omega) (by unfold maxLen; omega))
            have HY4 := Lib.hid ((b4.block _ (heap_lt HY3.out)).trans HY3.out)
            have OB4 := Lib.hid (own_below' OB3.out b4)
            have HAP6 : Hid ((Value.slice (some ⟨wr.heap.size + 1, 0, none⟩) 0 0).ownBlock = none ∨ (Value.slice (some ⟨wr.heap.size + 1, 0, none⟩) 0 0).ownBlock ≠ (Value.slice AV lt cV).ownBlock) := by
              cases hob : (Value.slice (some ⟨wr.heap.size + 1, 0, none⟩) 0 0).ownBlock with
              | none => exact .inl rfl
              | some g =>
                refine .inr fun e => ?_
                have h1 := (OB3.out.lt _ hob).1
                have h2 := (own.lt _ e.symm).2
                omega
            have g0 : w3.cell? ⟨wr.heap.size, 0, none⟩ = some (.int .i64 1) := by rw [cell_of_heap HY3.out]; rfl
            have g1 : w3.cell? ⟨wr.heap.size, 1, none⟩ = some (.int .i64 z) := by rw [cell_of_heap HY3.out]; rfl
            have g2 : w3.cell? ⟨wr.heap.size, 2, none⟩ = some (.int .i64 0) := by rw [cell_of_heap HY3.out]; rfl
            rw [HW3.out] at g0 g1 g2
            have hw34 : wr.heap.size < w4.heap.size := heap_lt HY4.out
            clear b4 x4 hbw3 own
            go_wp2_with (first
              | (at_builtin; rw [← HW3.out, ← HW4.out]; refine wpList_appy rfl _ _ _ rfl Tryd.underlying22 infoLoop rfl (by omega) w.heap.size own4 hbz rfl src4 rfl (one_rows_R3' _) (by unfold maxLen; omega) (by omega) ?_; intro V5 w5 own5 hg5 hl5; have HY5 := Lib.hid (grown_keep hg5 HY4.out HNE.out); have O65 := Lib.hid (OB4.out.kept hg5 HAP6.out); obtain ⟨A5, c5, rfl⟩ := own_form own5; have HB5 := Lib.hid (grown_below (below_step HB.out HBW.out) own4 (Nat.le_refl _) hg5); rw [← rows_app] at own5; have HO5 : Hid (w5.ownsRow w.heap.size 54 3 (.slice A5 (lt + 1) c5) (lt + 1) (rows R3.vs (ts ++ [⟨1, z, 0⟩]))) := own5; have hown5 := HO5.out; have hbz5 := HB5.out.size; clear own5 hg5 hl5 src4 own4 g0 g1 g2)
              | (at_builtin; refine wpList_appx rfl _ _ _ rfl Tryd.underlying22 infoLoop rfl (by omega) w.heap.size hown5 hbz5 rfl (Src.of_own O65.out) rfl (one_rows_R3' _) (by unfold maxLen; omega) (by omega) ?_; intro V7 w7 own7 hg7 hnil7; rw [Nat.add_zero] at own7; obtain ⟨A7, c7, rfl⟩ := own_form own7; have HB7 := Lib.hid (grown_below HB5.out hown5 (Nat.le_refl _) hg7); rw [← rows_app] at own7; have HO7 : Hid (w7.ownsRow w.heap.size 54 3 (.slice A7 (lt + 1) c7) (lt + 1) (rows R3.vs (ts ++ [⟨1, z, 0⟩] ++ []))) := own7; clear own7 hg7 hnil7 hown5; rcases Nat.lt_or_ge 150 (lt + 1) with hlong | hlong))
            · have FIN := Lib.hid (PsPost.fail (L := L) (q2 : Int) (show prsS (d + 1) S = none by rw [HPL.out, HNN.out, ploop_long HONE.out (by rw [List.length_append, List.length_append, HLT.out, List.length_singleton, HNB.out]; exact hlong)]) HB7.out)
              have hlI : (150 : Int) < ((lt + 1 : Nat) : Int) := by omega
              go_wp2_with fail
              go_ret3
              exact FIN.out
            · have hlI : ¬ (150 : Int) < ((lt + 1 : Nat) : Int) := by omega
              have hlen : ¬ 150 < (ts ++ [(⟨1, z, 0⟩ : R3)] ++ []).length := by rw [List.length_append, List.length_append, HLT.out, List.length_singleton, HNB.out]; omega
              have HLEN := Lib.hid hlen
              have HL11 := Lib.hid (fun W => l11Byte_any s L HS.out q2 T HT2.out 59 59 rfl (by decide) ⟨by omega, hL⟩ _ rfl W)
              clear hlen
              go_wp2_with fail
              refine (HL11.out _).mono ?_
              rintro e w8 ⟨rfl, rfl⟩
              by_cases h59 : T.headD 0 = 59
              · rw [decide_eq_true h59]
                obtain ⟨ht1, ht2, ht3⟩ := drop_tail HT2.out h59 (by decide)
                have HT3 := Lib.hid ht3
                have hT9 : T.length = L.length - q2 := by rw [← HT2.out, List.length_drop]
                have hS9 : S2.length = L.length - p := by rw [← HSD.out, List.length_drop]
                have HNX : Hid (prsS (d + 1) S = ploop (prsS d) n' (ts ++ [⟨1, z, 0⟩] ++ []) T.tail) := by unfold Hid; rw [HPL.out, HNN.out, ploop_next HONE.out HLEN.out h59]
                have hTt : T.tail.length = T.length - 1 := by simp
                have hwq : IntKind.i64.wrap ((q2 : Int) + 1) = (q2 : Int) + 1 := IntWalk.i64_in _ (by omega)
                have hn9 := HNN.out
                clear h59 ht2 ht3
                go_wp2_with fail
                go_roundw
                case rel => exact ⟨q2 + 1, T.tail, n', _, ts ++ [⟨1, z, 0⟩] ++ [], rfl, by go_num, ht1, HT3, by omega, by have := HLEN.out; omega, HNX, by rw [List.length_append, List.length_append, HLT.out, List.length_singleton, HNB.out]; exact HO7, HB7⟩
                case measure => first | (simp [intOf]; done) | (simp [intOf]; omega)
              · rw [decide_eq_false h59]
                have FIN : Hid (PsPost L (prsS (d + 1) S) w (.returned (.tuple #[.slice A7 (lt + 1) c7, .int .i64 q2, .bool true])) w7) :=
                  .inr ⟨A7, lt + 1, c7, q2, ts ++ [⟨1, z, 0⟩] ++ [], T, by rw [HPL.out, HNN.out, ploop_done HONE.out HLEN.out h59], rfl, by rw [List.length_append, List.length_append, HLT.out, List.length_singleton, HNB.out], by omega, hq2, HT2.out, HO7.out, HB7.out⟩
                clear h59
                go_wp2_with fail
                go_ret3
                exact FIN.out
      · have hc33 : S2.headD 0 ≠ 33 := fun e => hsg (.inl e)
        have hc43 : S2.headD 0 ≠ 43 := fun e => hsg (.inr e)
        have HC1 := Lib.hid (fun W => l11Byte_any s L HS.out p S2 HSD.out 33 33 rfl (by decide) ⟨by omega, hL⟩ false (decide_eq_false hc33) W)
        have HC2 := Lib.hid (fun W => l11Byte_any s L HS.out p S2 HSD.out 43 43 rfl (by decide) ⟨by omega, hL⟩ false (decide_eq_false hc43) W)
        obtain ⟨z, hzz⟩ : ∃ z, (smallS S2).1 = z := ⟨_, rfl⟩
        obtain ⟨T, hTT⟩ : ∃ T, (smallS S2).2 = T := ⟨_, rfl⟩
        have HZ := Lib.hid hzz; have HTT := Lib.hid hTT
        have HSM := Lib.hid (fun W => l17Small_any s L HS.out p S2 HSD.out ⟨hpl, hL⟩ W)
        have HSG := Lib.hid hsg
        clear hc33 hc43 hzz hTT hsg
        go_wp2_with fail
        rw [← HW1.out, ← HW2.out]
        refine (HC1.out _).mono ?_
        rintro e w9 ⟨rfl, rfl⟩
        go_wp2_with fail
        refine (HC2.out _).mono ?_
        rintro e w9 ⟨rfl, rfl⟩
        go_wp2_with fail
        refine (HSM.out _).mono ?_
        rintro e wa3 ⟨q2, rfl, hq2, hqd, b3⟩
        rw [HZ.out]
        have HT2 : Hid (L.drop q2 = T) := by unfold Hid; rw [hqd, HTT.out]
        have y3 := (b3.block _ (heap_lt HX1.out)).trans HX1.out
        have p1 : wa3.cell? ⟨wr.heap.size, 1, none⟩ = some (.int .i64 0) := by rw [cell_of_heap y3]; rfl
        have f1 : wa3.frozen? ⟨wr.heap.size, 1, none⟩ = false := frozen_of_heap y3
        have hbf : Below wr.heap.size wr (wa3.setCell ⟨wr.heap.size, 1, none⟩ (.int .i64 z)) := (below_step HB2.out b3).setCell (p := ⟨wr.heap.size, 1, none⟩) (Nat.le_refl _) _
        have FAILN : Hid (oneS (prsS d) S2 = none → ∀ q : Int, PsPost L (prsS (d + 1) S) w (.returned (.tuple #[.slice none 0 0, .int .i64 q, .bool false])) (wa3.setCell ⟨wr.heap.size, 1, none⟩ (.int .i64 z))) := fun h q => FAIL.out h q _ (below_step HB.out hbf)
        clear hqd
        rcases Int.lt_or_le z 0 with hzn | hzn
        · have FIN := Lib.hid (FAILN.out (oneS_num_no _ HSG.out (by rw [HZ.out]; exact hzn)) (p : Int))
          clear hbf own b3 y3
          go_wp2_with fail
          go_ret3
          exact FIN.out
        have hznn : ¬ z < 0 := by omega
        have HON : Hid (oneS (prsS d) S2 = restS (prsS d) z T) := by unfold Hid; rw [oneS_num _ HSG.out (by rw [HZ.out]; exact hznn), HZ.out, HTT.out]
        have hpq : p + 1 ≤ q2 := by
          have h1 := (smallS_len S2).2.1 (by rw [HZ.out]; omega)
          rw [HTT.out, ← HT2.out, ← HSD.out, List.length_drop, List.length_drop] at h1
          omega
        clear hzn
        cases hTc : T with
        | nil =>
          have hle : q2 = L.length := by have := congrArg List.length (HT2.out.trans hTc); rw [List.length_drop, List.length_nil] at this; omega
          have FIN := Lib.hid (FAILN.out (by rw [HON.out, hTc]; rfl) (p : Int))
          subst hle
          clear hbf own b3 y3 hTc
          go_wp2_with fail
          go_ret3
          exact FIN.out
        | cons sg T2 =>
          obtain ⟨hq2s, hqsb⟩ := str_at HS.out (HT2.out.trans hTc)
          have hq2I : (q2 : Int) < (s.size : Int) := by omega
          have hqe : ((q2 : Int) == (L.length : Int)) = false := by rw [beq_eq_false_iff_ne]; omega
          have hwq : IntKind.i64.wrap ((q2 : Int) + 1) = ((q2 + 1 : Nat) : Int) := (IntWalk.i64_in _ (by omega)).trans (by omega)
          have HT2c : Hid (L.drop (q2 + 1) = T2) := Lib.hid (drop_next (HT2.out.trans hTc))
          have HTC := Lib.hid hTc
          have hsgi : ∀ (k : Nat) (b : UInt8), b.toNat = k → sg ≠ b → ((s[q2].toNat : Int) == (k : Int)) = false := by
            intro k b hk hb
            rw [hqsb, beq_eq_false_iff_ne]
            intro e
            exact hb (UInt8.toNat_inj.1 (by omega))
          clear hTc
          by_cases h61 : sg = 61
          · subst h61
            have e61 : ((s[q2].toNat : Int) == 61) = true := by rw [hqsb]; rfl
            obtain ⟨z2, hzz2⟩ : ∃ z2, (smallS T2).1 = z2 := ⟨_, rfl⟩
            obtain ⟨TB, hTB⟩ : ∃ TB, (smallS T2).2 = TB := ⟨_, rfl⟩
            have HZ2 := Lib.hid hzz2; have HTT2 := Lib.hid hTB
            have HSM2 := Lib.hid (fun W => l17Small_any s L HS.out (q2 + 1) T2 HT2c.out ⟨by omega, hL⟩ W)
            have hy4 : (wa3.setCell ⟨wr.heap.size, 1, none⟩ (.int .i64 z)).heap[wr.heap.size]? = some (.cells #[.int .i64 0, .int .i64 z, .int .i64 0] 54 (0, 0)) := heap_set y3 _
            have oB : w2.ownsRow (wr.heap.size + 1) 54 3 (.slice (some ⟨wr.heap.size + 1, 0, none⟩) 0 0) 0 (rows R3.vs []) := by
              have := own_of_block (n := 0) (cap := 0) (s := 3) (xs := []) (base := wr.heap.size + 1) HX2.out (Nat.le_refl _) rfl (Nat.le_refl _) (Nat.zero_le _)
              rw [List.take_nil] at this
              exact this
            have hne9 : ∀ i : Nat, some (⟨wr.heap.size, i, none⟩ : Addr).block ≠ (Value.slice (some ⟨wr.heap.size + 1, 0, none⟩) 0 0).ownBlock := by
              intro i e
              have : wr.heap.size = wr.heap.size + 1 := by injection e
              omega
            have oB3 := own_setCell (own_below' oB b3) (hne9 1) (.int .i64 z)
            have HBF := Lib.hid hbf
            clear hbf b3 y3 hqsb hsgi hzz2 hTB oB FAILN
            go_wp2_with fail
            refine (HSM2.out _).mono ?_
            rintro e wa4 ⟨q3, rfl, hq3, hqd3, b4⟩
            rw [HZ2.out]
            have HTB : Hid (L.drop q3 = TB) := by unfold Hid; rw [hqd3, HTT2.out]
            have y4 := (b4.block _ (heap_lt hy4)).trans hy4
            have k0 : wa4.cell? ⟨wr.heap.size, 0, none⟩ = some (.int .i64 0) := by rw [cell_of_heap y4]; rfl
            have k2 : wa4.cell? ⟨wr.heap.size, 2, none⟩ = some (.int .i64 0) := by rw [cell_of_heap y4]; rfl
            have f0 : wa4.frozen? ⟨wr.heap.size, 0, none⟩ = false := frozen_of_heap y4
            have f2 : wa4.frozen? ⟨wr.heap.size, 2, none⟩ = false := frozen_of_heap y4
            have hpq3 : p + 1 ≤ q3 := by
              have h1 := (smallS_len T2).1
              rw [HTT2.out, ← HTB.out, ← HT2c.out, List.length_drop, List.length_drop] at h1
              omega
            obtain ⟨w3, HW3⟩ : ∃ w3, Hid (w3 = (wa4.setCell ⟨wr.heap.size, 0, none⟩ (.int .i64 2)).setCell ⟨wr.heap.size, 2, none⟩ (.int .i64 z2)) := ⟨_, rfl⟩
            have hz3 : w3.heap.size = wa4.heap.size := by rw [HW3.out]; simp
            have HY3 : Hid (w3.heap[wr.heap.size]? = some (.cells #[.int .i64 2, .int .i64 z, .int .i64 z2] 54 (0, 0))) := by unfold Hid; rw [HW3.out]; exact heap_set (heap_set y4 (i := 0) (.int .i64 2)) (i := 2) _
            have hbw3 : Below wr.heap.size wr w3 := by rw [HW3.out]; exact ((below_step HBF.out b4).setCell (p := ⟨wr.heap.size, 0, none⟩) (Nat.le_refl _) _).setCell (p := ⟨wr.heap.size, 2, none⟩) (Nat.le_refl _) _
            have OB3 : Hid (w3.ownsRow (wr.heap.size + 1) 54 3 (.slice (some ⟨wr.heap.size + 1, 0, none⟩) 0 0) 0 (rows R3.vs [])) := by unfold Hid; rw [HW3.out]; exact own_setCell (own_setCell (own_below' oB3 b4) (hne9 0) _) (hne9 2) _
            have HNB : Hid (([] : List R3).length = 0) := rfl
            clear b4 y4 oB3 hne9 hqd3 hy4
            rcases Int.lt_or_le z2 0 with hzn2 | hzn2
            · have FIN := Lib.hid (FAIL.out (by rw [HON.out, HTC.out, restS_eq, HZ2.out, if_pos hzn2]) (q3 : Int) w3 (below_step HB.out hbw3))
              have g1 : w3.cell? ⟨wr.heap.size, 1, none⟩ = some (.int .i64 z) := by rw [cell_of_heap HY3.out]; rfl
              have g2 : w3.cell? ⟨wr.heap.size, 2, none⟩ = some (.int .i64 z2) := by rw [cell_of_heap HY3.out]; rfl
              rw [HW3.out] at g1 g2 FIN
              clear hbw3 own
              go_wp2_with fail
              go_ret3
              exact FIN.out
            · have hznn2 : ¬ z2 < 0 := by omega
              have HONE : Hid (oneS (prsS d) S2 = some (⟨2, z, z2⟩, [], TB)) := by
                unfold Hid
                rw [HON.out, HTC.out, restS_eq, HZ2.out, HTT2.out, if_neg hznn2]
              clear hzn2
              obtain ⟨w4, HW4, b4, x4⟩ := al1 w3 (.cells #[.int .i64 2, .int .i64 z, .int .i64 z2] 54)
              have HBW := Lib.hid (below_step hbw3 b4)
              have own4 := own_below' own HBW.out
              have hbz := (below_step HB.out HBW.out).size
              have HNE : Hid (some wr.heap.size ≠ (Value.slice AV lt cV).ownBlock) := by unfold Hid; intro e; have := (own.lt _ e.symm).2; omega
              have src4 : Src 3 w4 (.slice (some ⟨wa4.heap.size, 0, none⟩) 1 1) 1 (rows R3.vs [⟨2, z, z2⟩]) := Src.of_own (own_of_block (n := 1) (cap := 1) (s := 3) (xs := [.int .i64 2, .int .i64 z, .int .i64 z2]) (base := 0) (hz3 ▸ x4) (by omega) rfl (by omega) (by unfold maxLen; omega))
              have HY4 := Lib.hid ((b4.block _ (heap_lt HY3.out)).trans HY3.out)
              have OB4 := Lib.hid (own_below' OB3.out b4)
              have HAP6 : Hid ((Value.slice (some ⟨wr.heap.size + 1, 0, none⟩) 0 0).ownBlock = none ∨ (Value.slice (some ⟨wr.heap.size + 1, 0, none⟩) 0 0).ownBlock ≠ (Value.slice AV lt cV).ownBlock) := by
                cases hob : (Value.slice (some ⟨wr.heap.size + 1, 0, none⟩) 0 0).ownBlock with
                | none => exact .inl rfl
                | some g =>
                  refine .inr fun e => ?_
                  have h1 := (OB3.out.lt _ hob).1
                  have h2 := (own.lt _ e.symm).2
                  omega
              have g0 : w3.cell? ⟨wr.heap.size, 0, none⟩ = some (.int .i64 2) := by rw [cell_of_heap HY3.out]; rfl
              have g1 : w3.cell? ⟨wr.heap.size, 1, none⟩ = some (.int .i64 z) := by rw [cell_of_heap HY3.out]; rfl
              have g2 : w3.cell? ⟨wr.heap.size, 2, none⟩ = some (.int .i64 z2) := by rw [cell_of_heap HY3.out]; rfl
              rw [HW3.out] at g0 g1 g2
              have hw34 : wr.heap.size < w4.heap.size := heap_lt HY4.out
              clear b4 x4 hbw3 own
              go_wp2_with (first
                | (at_builtin; rw [← HW3.out, ← HW4.out]; refine wpList_appy rfl _ _ _ rfl Tryd.underlying22 infoLoop rfl (by omega) w.heap.size own4 hbz rfl src4 rfl (one_rows_R3' _) (by unfold maxLen; omega) (by omega) ?_; intro V5 w5 own5 hg5 hl5; have HY5 := Lib.hid (grown_keep hg5 HY4.out HNE.out); have O65 := Lib.hid (OB4.out.kept hg5 HAP6.out); obtain ⟨A5, c5, rfl⟩ := own_form own5; have HB5 := Lib.hid (grown_below (below_step HB.out HBW.out) own4 (Nat.le_refl _) hg5); rw [← rows_app] at own5; have HO5 : Hid (w5.ownsRow w.heap.size 54 3 (.slice A5 (lt + 1) c5) (lt + 1) (rows R3.vs (ts ++ [⟨2, z, z2⟩]))) := own5; have hown5 := HO5.out; have hbz5 := HB5.out.size; clear own5 hg5 hl5 src4 own4 g0 g1 g2)
                | (at_builtin; refine wpList_appx rfl _ _ _ rfl Tryd.underlying22 infoLoop rfl (by omega) w.heap.size hown5 hbz5 rfl (Src.of_own O65.out) rfl (one_rows_R3' _) (by unfold maxLen; omega) (by omega) ?_; intro V7 w7 own7 hg7 hnil7; rw [Nat.add_zero] at own7; obtain ⟨A7, c7, rfl⟩ := own_form own7; have HB7 := Lib.hid (grown_below HB5.out hown5 (Nat.le_refl _) hg7); rw [← rows_app] at own7; have HO7 : Hid (w7.ownsRow w.heap.size 54 3 (.slice A7 (lt + 1) c7) (lt + 1) (rows R3.vs (ts ++ [⟨2, z, z2⟩] ++ []))) := own7; clear own7 hg7 hnil7 hown5; rcases Nat.lt_or_ge 150 (lt + 1) with hlong | hlong))
              · have FIN := Lib.hid (PsPost.fail (L := L) (q3 : Int) (show prsS (d + 1) S = none by rw [HPL.out, HNN.out, ploop_long HONE.out (by rw [List.length_append, List.length_append, HLT.out, List.length_singleton, HNB.out]; exact hlong)]) HB7.out)
                have hlI : (150 : Int) < ((lt + 1 : Nat) : Int) := by omega
                go_wp2_with fail
                go_ret3
                exact FIN.out
              · have hlI : ¬ (150 : Int) < ((lt + 1 : Nat) : Int) := by omega
                have hlen : ¬ 150 < (ts ++ [(⟨2, z, z2⟩ : R3)] ++ []).length := by rw [List.length_append, List.length_append, HLT.out, List.length_singleton, HNB.out]; omega
                have HLEN := Lib.hid hlen
                have HL11 := Lib.hid (fun W => l11Byte_any s L HS.out q3 TB HTB.out 59 59 rfl (by decide) ⟨by omega, hL⟩ _ rfl W)
                clear hlen
                go_wp2_with fail
                refine (HL11.out _).mono ?_
                rintro e w8 ⟨rfl, rfl⟩
                by_cases h59 : TB.headD 0 = 59
                · rw [decide_eq_true h59]
                  obtain ⟨ht1, ht2, ht3⟩ := drop_tail HTB.out h59 (by decide)
                  have HT3 := Lib.hid ht3
                  have hT9 : TB.length = L.length - q3 := by rw [← HTB.out, List.length_drop]
                  have hS9 : S2.length = L.length - p := by rw [← HSD.out, List.length_drop]
                  have HNX : Hid (prsS (d + 1) S = ploop (prsS d) n' (ts ++ [⟨2, z, z2⟩] ++ []) TB.tail) := by unfold Hid; rw [HPL.out, HNN.out, ploop_next HONE.out HLEN.out h59]
                  have hTt : TB.tail.length = TB.length - 1 := by simp
                  have hwq : IntKind.i64.wrap ((q3 : Int) + 1) = (q3 : Int) + 1 := IntWalk.i64_in _ (by omega)
                  have hn9 := HNN.out
                  clear h59 ht2 ht3
                  go_wp2_with fail
                  go_roundw
                  case rel => exact ⟨q3 + 1, TB.tail, n', _, ts ++ [⟨2, z, z2⟩] ++ [], rfl, by go_num, ht1, HT3, by omega, by have := HLEN.out; omega, HNX, by rw [List.length_append, List.length_append, HLT.out, List.length_singleton, HNB.out]; exact HO7, HB7⟩
                  case measure => first | (simp [intOf]; done) | (simp [intOf]; omega)
                · rw [decide_eq_false h59]
                  have FIN : Hid (PsPost L (prsS (d + 1) S) w (.returned (.tuple #[.slice A7 (lt + 1) c7, .int .i64 q3, .bool true])) w7) :=
                    .inr ⟨A7, lt + 1, c7, q3, ts ++ [⟨2, z, z2⟩] ++ [], TB, by rw [HPL.out, HNN.out, ploop_done HONE.out HLEN.out h59], rfl, by rw [List.length_append, List.length_append, HLT.out, List.length_singleton, HNB.out], by omega, hq3, HTB.out, HO7.out, HB7.out⟩
                  clear h59
                  go_wp2_with fail
                  go_ret3
                  exact FIN.out
          have e61 : ((s[q2].toNat : Int) == 61) = false := hsgi 61 61 rfl h61
          by_cases h42 : sg = 42
          · subst h42
            have e42 : ((s[q2].toNat : Int) == 42) = true := by rw [hqsb]; rfl
            have e63 : ((s[q2].toNat : Int) == 63) = false := by rw [hqsb]; rfl
            have hy4 := heap_set y3 (i := 1) (.int .i64 z)
            have k0 : (wa3.setCell ⟨wr.heap.size, 1, none⟩ (.int .i64 z)).cell? ⟨wr.heap.size, 0, none⟩ = some (.int .i64 0) := by rw [cell_of_heap hy4]; rfl
            have f0 : (wa3.setCell ⟨wr.heap.size, 1, none⟩ (.int .i64 z)).frozen? ⟨wr.heap.size, 0, none⟩ = false := frozen_of_heap hy4
            have HYB : Hid (((wa3.setCell ⟨wr.heap.size, 1, none⟩ (.int .i64 z)).setCell ⟨wr.heap.size, 0, none⟩ (.int .i64 3)).heap[wr.heap.size]? = some (.cells #[.int .i64 3, .int .i64 z, .int .i64 0] 54 (0, 0))) := heap_set (heap_set y3 (i := 1) (.int .i64 z)) (i := 0) (.int .i64 3)
            have HBB : Hid (Below wr.heap.size wr ((wa3.setCell ⟨wr.heap.size, 1, none⟩ (.int .i64 z)).setCell ⟨wr.heap.size, 0, none⟩ (.int .i64 3))) := (hbf.setCell (p := ⟨wr.heap.size, 0, none⟩) (Nat.le_refl _) (.int .i64 3))
            have HC40 := Lib.hid (fun W => l11Byte_any s L HS.out (q2 + 1) T2 HT2c.out 40 40 rfl (by decide) ⟨by omega, hL⟩ _ rfl W)
            clear hbf b3 y3 hqsb hsgi FAILN hy4
            go_wp2_with fail
            refine (HC40.out _).mono ?_
            rintro e w9 ⟨rfl, rfl⟩
            by_cases h40 : T2.headD 0 = 40
            rotate_left
            · rw [decide_eq_false h40]
              have FIN := Lib.hid (FAIL.out (by rw [HON.out, HTC.out, restS_body _ _ _ (.inl rfl), if_neg h40]) ((q2 + 1 : Nat) : Int) _ (below_step HB.out HBB.out))
              clear h40 own
              go_wp2_with fail
              go_ret3
              exact FIN.out
            rw [decide_eq_true h40]
            obtain ⟨ht1, ht2, ht3⟩ := drop_tail HT2c.out h40 (by decide)
            have HR := Lib.hid (fun W => IH.out (q2 + 1 + 1) T2.tail W ht3 ht1)
            have ht3x := Lib.hid ht3
            have hwq1 : IntKind.i64.wrap (((q2 + 1 : Nat) : Int) + 1) = ((q2 + 1 + 1 : Nat) : Int) := (IntWalk.i64_in _ (by omega)).trans (by omega)
            have hwd : IntKind.i64.wrap (dep + 1) = dep + 1 := IntWalk.i64_in _ (by omega)
            have H40 := Lib.hid h40
            clear ht2 ht3 h40
            go_wp2_with fail
            refine (HR.out _).mono ?_
            rintro e wa5 (⟨qf, ho, rfl, b5⟩ | ⟨A6, n6, c6, q6, l6, r6, ho, rfl, hn6, hn150, hq6, hr6, own6, b5⟩)
            · have FIN := Lib.hid (FAIL.out (by rw [HON.out, HTC.out, restS_body _ _ _ (.inl rfl), if_pos H40.out, ho]; rfl) ((q2 + 1 : Nat) : Int) _ (below_step HB.out (below_step HBB.out b5)))
              clear b5 own ho
              go_wp2_with fail
              go_ret3
              exact FIN.out
            have HL41 := Lib.hid (fun W => l11Byte_any s L HS.out q6 r6 hr6 41 41 rfl (by decide) ⟨by omega, hL⟩ _ rfl W)
            have y5 := (b5.block _ (heap_lt HYB.out)).trans HYB.out
            have HB5B := Lib.hid (below_step HBB.out b5)
            have OB6 := Lib.hid own6
            have HO6 := Lib.hid ho
            have HR6 := Lib.hid hr6
            have hbs : wr.heap.size < ((wa3.setCell ⟨wr.heap.size, 1, none⟩ (.int .i64 z)).setCell ⟨wr.heap.size, 0, none⟩ (.int .i64 3)).heap.size := heap_lt HYB.out
            clear b5 own6 ho hr6
            go_wp2_with fail
            refine (HL41.out _).mono ?_
            rintro e w9 ⟨rfl, rfl⟩
            by_cases h41b : r6.headD 0 = 41
            rotate_left
            · rw [decide_eq_false h41b]
              have FIN := Lib.hid (FAIL.out (by rw [HON.out, HTC.out, restS_body _ _ _ (.inl rfl), if_pos H40.out, HO6.out, closeS_no _ _ _ h41b]) ((q2 + 1 : Nat) : Int) _ (below_step HB.out HB5B.out))
              clear h41b own y5
              go_wp2_with fail
              go_ret3
              exact FIN.out
            rw [decide_eq_true h41b]
            obtain ⟨hu1, hu2, hu3⟩ := drop_tail HR6.out h41b (by decide)
            obtain ⟨q3, hq3e⟩ : ∃ q3, q6 + 1 = q3 := ⟨_, rfl⟩
            obtain ⟨TB, hTBe⟩ : ∃ TB, r6.tail = TB := ⟨_, rfl⟩
            have hwq6 : IntKind.i64.wrap ((q6 : Int) + 1) = (q3 : Int) := (IntWalk.i64_in _ (by omega)).trans (by omega)
            have HTB : Hid (L.drop q3 = TB) := by unfold Hid; rw [← hq3e, hu3, hTBe]
            have hq3 : q3 ≤ L.length := by omega
            have k2 : wa5.cell? ⟨wr.heap.size, 2, none⟩ = some (.int .i64 0) := by rw [cell_of_heap y5]; rfl
            have f2 : wa5.frozen? ⟨wr.heap.size, 2, none⟩ = false := frozen_of_heap y5
            have hpq3 : p + 1 ≤ q3 := by
              have h1 := prsS_rest d _ _ _ HO6.out
              rw [← HR6.out, ← ht3x.out, List.length_drop, List.length_drop] at h1
              omega
            obtain ⟨w3, HW3⟩ : ∃ w3, Hid (w3 = wa5.setCell ⟨wr.heap.size, 2, none⟩ (.int .i64 ((n6 : Nat) : Int))) := ⟨_, rfl⟩
            have hz3 : w3.heap.size = wa5.heap.size := by rw [HW3.out]; simp
            have HY3 : Hid (w3.heap[wr.heap.size]? = some (.cells #[.int .i64 3, .int .i64 z, .int .i64 ((n6 : Nat) : Int)] 54 (0, 0))) := by unfold Hid; rw [HW3.out]; exact heap_set y5 (i := 2) _
            have hbw3 : Below wr.heap.size wr w3 := by rw [HW3.out]; exact HB5B.out.setCell (p := ⟨wr.heap.size, 2, none⟩) (Nat.le_refl _) _
            have hne9 : some (⟨wr.heap.size, 2, none⟩ : Addr).block ≠ (Value.slice A6 n6 c6).ownBlock := fun e => by
              have h9 := (OB6.out.lt _ e.symm).1
              dsimp only at h9
              omega
            obtain ⟨bs, hbse⟩ : ∃ bs, ((wa3.setCell ⟨wr.heap.size, 1, none⟩ (.int .i64 z)).setCell ⟨wr.heap.size, 0, none⟩ (.int .i64 3)).heap.size = bs := ⟨_, rfl⟩
            have OB3 : Hid (w3.ownsRow bs 54 3 (.slice A6 n6 c6) n6 (rows R3.vs l6)) := by unfold Hid; rw [HW3.out, ← hbse]; exact own_setCell OB6.out hne9 _
            rw [hbse] at hbs
            have HNB := Lib.hid hn6
            have HONE : Hid (oneS (prsS d) S2 = some (⟨3, z, ((n6 : Nat) : Int)⟩, l6, TB)) := by
              unfold Hid
              have hu4 : r6 = 41 :: TB := by rw [← hTBe]; exact hu2
              rw [HON.out, HTC.out, restS_body _ _ _ (.inl rfl), if_pos H40.out, HO6.out, hu4, closeS_yes, hn6]
              rfl
            have hnn6 : ¬ ((n6 : Nat) : Int) < 0 := by omega
            clear hu2 hu3 hq3e hTBe h41b y5 hne9 OB6 hn6 hbse
            obtain ⟨w4, HW4, b4, x4⟩ := al1 w3 (.cells #[.int .i64 3, .int .i64 z, .int .i64 ((n6 : Nat) : Int)] 54)
            have HBW := Lib.hid (below_step hbw3 b4)
            have own4 := own_below' own HBW.out
            have hbz := (below_step HB.out HBW.out).size
            have HNE : Hid (some wr.heap.size ≠ (Value.slice AV lt cV).ownBlock) := by unfold Hid; intro e; have := (own.lt _ e.symm).2; omega
            have src4 : Src 3 w4 (.slice (some ⟨wa5.heap.size, 0, none⟩) 1 1) 1 (rows R3.vs [⟨3, z, ((n6 : Nat) : Int)⟩]) := Src.of_own (own_of_block (n := 1) (cap := 1) (s := 3) (xs := [.int .i64 3, .int .i64 z, .int .i64 ((n6 : Nat) : Int)]) (base := 0) (hz3 ▸ x4) (by omega) rfl (by omega) (by unfold maxLen; omega))
            have HY4 := Lib.hid ((b4.block _ (heap_lt HY3.out)).trans HY3.out)
            have OB4 := Lib.hid (own_below' OB3.out b4)
            have HAP6 : Hid ((Value.slice A6 n6 c6).ownBlock = none ∨ (Value.slice A6 n6 c6).ownBlock ≠ (Value.slice AV lt cV).ownBlock) := by
              cases hob : (Value.slice A6 n6 c6).ownBlock with
              | none => exact .inl rfl
              | some g =>
                refine .inr fun e => ?_
                have h1 := (OB3.out.lt _ hob).1
                have h2 := (own.lt _ e.symm).2
                omega
            have g0 : w3.cell? ⟨wr.heap.size, 0, none⟩ = some (.int .i64 3) := by rw [cell_of_heap HY3.out]; rfl
            have g1 : w3.cell? ⟨wr.heap.size, 1, none⟩ = some (.int .i64 z) := by rw [cell_of_heap HY3.out]; rfl
            have g2 : w3.cell? ⟨wr.heap.size, 2, none⟩ = some (.int .i64 ((n6 : Nat) : Int)) := by rw [cell_of_heap HY3.out]; rfl
            rw [HW3.out] at g0 g1 g2
            have hw34 : wr.heap.size < w4.heap.size := heap_lt HY4.out
            clear b4 x4 hbw3 own
            go_wp2_with (first
              | (at_builtin; rw [← HW3.out, ← HW4.out]; refine wpList_appy rfl _ _ _ rfl Tryd.underlying22 infoLoop rfl (by omega) w.heap.size own4 hbz rfl src4 rfl (one_rows_R3' _) (by unfold maxLen; omega) (by omega) ?_; intro V5 w5 own5 hg5 hl5; have HY5 := Lib.hid (grown_keep hg5 HY4.out HNE.out); have O65 := Lib.hid (OB4.out.kept hg5 HAP6.out); obtain ⟨A5, c5, rfl⟩ := own_form own5; have HB5 := Lib.hid (grown_below (below_step HB.out HBW.out) own4 (Nat.le_refl _) hg5); rw [← rows_app] at own5; have HO5 : Hid (w5.ownsRow w.heap.size 54 3 (.slice A5 (lt + 1) c5) (lt + 1) (rows R3.vs (ts ++ [⟨3, z, ((n6 : Nat) : Int)⟩]))) := own5; have hown5 := HO5.out; have hbz5 := HB5.out.size; clear own5 hg5 hl5 src4 own4 g0 g1 g2)
              | (at_builtin; refine wpList_appx rfl _ _ _ rfl Tryd.underlying22 infoLoop rfl (by omega) w.heap.size hown5 hbz5 rfl (Src.of_own O65.out) rfl (one_rows_R3' _) (by unfold maxLen; omega) (by omega) ?_; intro V7 w7 own7 hg7 hnil7; obtain ⟨A7, c7, rfl⟩ := own_form own7; have HB7 := Lib.hid (grown_below HB5.out hown5 (Nat.le_refl _) hg7); rw [← rows_app] at own7; have HO7 : Hid (w7.ownsRow w.heap.size 54 3 (.slice A7 (lt + 1 + n6) c7) (lt + 1 + n6) (rows R3.vs (ts ++ [⟨3, z, ((n6 : Nat) : Int)⟩] ++ l6))) := own7; clear own7 hg7 hnil7 hown5; rcases Nat.lt_or_ge 150 (lt + 1 + n6) with hlong | hlong))
            · have FIN := Lib.hid (PsPost.fail (L := L) (q3 : Int) (show prsS (d + 1) S = none by rw [HPL.out, HNN.out, ploop_long HONE.out (by rw [List.length_append, List.length_append, HLT.out, List.length_singleton, HNB.out]; exact hlong)]) HB7.out)
              have hlI : (150 : Int) < ((lt + 1 + n6 : Nat) : Int) := by omega
              go_wp2_with fail
              go_ret3
              exact FIN.out
            · have hlI : ¬ (150 : Int) < ((lt + 1 + n6 : Nat) : Int) := by omega
              have hlen : ¬ 150 < (ts ++ [(⟨3, z, ((n6 : Nat) : Int)⟩ : R3)] ++ l6).length := by rw [List.length_append, List.length_append, HLT.out, List.length_singleton, HNB.out]; omega
              have HLEN := Lib.hid hlen
              have HL11 := Lib.hid (fun W => l11Byte_any s L HS.out q3 TB HTB.out 59 59 rfl (by decide) ⟨by omega, hL⟩ _ rfl W)
              clear hlen
              go_wp2_with fail
              refine (HL11.out _).mono ?_
              rintro e w8 ⟨rfl, rfl⟩
              by_cases h59 : TB.headD 0 = 59
              · rw [decide_eq_true h59]
                obtain ⟨ht1, ht2, ht3⟩ := drop_tail HTB.out h59 (by decide)
                have HT3 := Lib.hid ht3
                have hT9 : TB.length = L.length - q3 := by rw [← HTB.out, List.length_drop]
                have hS9 : S2.length = L.length - p := by rw [← HSD.out, List.length_drop]
                have HNX : Hid (prsS (d + 1) S = ploop (prsS d) n' (ts ++ [⟨3, z, ((n6 : Nat) : Int)⟩] ++ l6) TB.tail) := by unfold Hid; rw [HPL.out, HNN.out, ploop_next HONE.out HLEN.out h59]
                have hTt : TB.tail.length = TB.length - 1 := by simp
                have hwq : IntKind.i64.wrap ((q3 : Int) + 1) = (q3 : Int) + 1 := IntWalk.i64_in _ (by omega)
                have hn9 := HNN.out
                clear h59 ht2 ht3
                go_wp2_with fail
                go_roundw
                case rel => exact ⟨q3 + 1, TB.tail, n', _, ts ++ [⟨3, z, ((n6 : Nat) : Int)⟩] ++ l6, rfl, by go_num, ht1, HT3, by omega, by have := HLEN.out; omega, HNX, by rw [List.length_append, List.length_append, HLT.out, List.length_singleton, HNB.out]; exact HO7, HB7⟩
                case measure => first | (simp [intOf]; done) | (simp [intOf]; omega)
              · rw [decide_eq_false h59]
                have FIN : Hid (PsPost L (prsS (d + 1) S) w (.returned (.tuple #[.slice A7 (lt + 1 + n6) c7, .int .i64 q3, .bool true])) w7) :=
                  .inr ⟨A7, lt + 1 + n6, c7, q3, ts ++ [⟨3, z, ((n6 : Nat) : Int)⟩] ++ l6, TB, by rw [HPL.out, HNN.out, ploop_done HONE.out HLEN.out h59], rfl, by rw [List.length_append, List.length_append, HLT.out, List.length_singleton, HNB.out], by omega, hq3, HTB.out, HO7.out, HB7.out⟩
                clear h59
                go_wp2_with fail
                go_ret3
                exact FIN.out
          have e42 : ((s[q2].toNat : Int) == 42) = false := hsgi 42 42 rfl h42
          by_cases h63 : sg = 63
          · subst h63
            have e63 : ((s[q2].toNat : Int) == 63) = true := by rw [hqsb]; rfl
            have hy4 := heap_set y3 (i := 1) (.int .i64 z)
            have k0 : (wa3.setCell ⟨wr.heap.size, 1, none⟩ (.int .i64 z)).cell? ⟨wr.heap.size, 0, none⟩ = some (.int .i64 0) := by rw [cell_of_heap hy4]; rfl
            have f0 : (wa3.setCell ⟨wr.heap.size, 1, none⟩ (.int .i64 z)).frozen? ⟨wr.heap.size, 0, none⟩ = false := frozen_of_heap hy4
            have k0b : ((wa3.setCell ⟨wr.heap.size, 1, none⟩ (.int .i64 z)).setCell ⟨wr.heap.size, 0, none⟩ (.int .i64 3)).cell? ⟨wr.heap.size, 0, none⟩ = some (.int .i64 3) := by rw [cell_of_heap (heap_set (heap_set y3 (i := 1) (.int .i64 z)) (i := 0) (.int .i64 3))]; rfl
            have f0b : ((wa3.setCell ⟨wr.heap.size, 1, none⟩ (.int .i64 z)).setCell ⟨wr.heap.size, 0, none⟩ (.int .i64 3)).frozen? ⟨wr.heap.size, 0, none⟩ = false := frozen_of_heap (heap_set (heap_set y3 (i := 1) (.int .i64 z)) (i := 0) (.int .i64 3))
            have HYB : Hid ((((wa3.setCell ⟨wr.heap.size, 1, none⟩ (.int .i64 z)).setCell ⟨wr.heap.size, 0, none⟩ (.int .i64 3)).setCell ⟨wr.heap.size, 0, none⟩ (.int .i64 4)).heap[wr.heap.size]? = some (.cells #[.int .i64 4, .int .i64 z, .int .i64 0] 54 (0, 0))) := heap_set (heap_set (heap_set y3 (i := 1) (.int .i64 z)) (i := 0) (.int .i64 3)) (i := 0) (.int .i64 4)
            have HBB : Hid (Below wr.heap.size wr (((wa3.setCell ⟨wr.heap.size, 1, none⟩ (.int .i64 z)).setCell ⟨wr.heap.size, 0, none⟩ (.int .i64 3)).setCell ⟨wr.heap.size, 0, none⟩ (.int .i64 4))) := ((hbf.setCell (p := ⟨wr.heap.size, 0, none⟩) (Nat.le_refl _) (.int .i64 3)).setCell (p := ⟨wr.heap.size, 0, none⟩) (Nat.le_refl _) (.int .i64 4))
            have HC40 := Lib.hid (fun W => l11Byte_any s L HS.out (q2 + 1) T2 HT2c.out 40 40 rfl (by decide) ⟨by omega, hL⟩ _ rfl W)
            clear hbf b3 y3 hqsb hsgi FAILN hy4
            go_wp2_with fail
            refine (HC40.out _).mono ?_
            rintro e w9 ⟨rfl, rfl⟩
            by_cases h40 : T2.headD 0 = 40
            rotate_left
            · rw [decide_eq_false h40]
              have FIN := Lib.hid (FAIL.out (by rw [HON.out, HTC.out, restS_body _ _ _ (.inr rfl), if_neg h40]) ((q2 + 1 : Nat) : Int) _ (below_step HB.out HBB.out))
              clear h40 own
              go_wp2_with fail
              go_ret3
              exact FIN.out
            rw [decide_eq_true h40]
            obtain ⟨ht1, ht2, ht3⟩ := drop_tail HT2c.out h40 (by decide)
            have HR := Lib.hid (fun W => IH.out (q2 + 1 + 1) T2.tail W ht3 ht1)
            have ht3x := Lib.hid ht3
            have hwq1 : IntKind.i64.wrap (((q2 + 1 : Nat) : Int) + 1) = ((q2 + 1 + 1 : Nat) : Int) := (IntWalk.i64_in _ (by omega)).trans (by omega)
            have hwd : IntKind.i64.wrap (dep + 1) = dep + 1 := IntWalk.i64_in _ (by omega)
            have H40 := Lib.hid h40
            clear ht2 ht3 h40
            go_wp2_with fail
            refine (HR.out _).mono ?_
            rintro e wa5 (⟨qf, ho, rfl, b5⟩ | ⟨A6, n6, c6, q6, l6, r6, ho, rfl, hn6, hn150, hq6, hr6, own6, b5⟩)
            · have FIN := Lib.hid (FAIL.out (by rw [HON.out, HTC.out, restS_body _ _ _ (.inr rfl), if_pos H40.out, ho]; rfl) ((q2 + 1 : Nat) : Int) _ (below_step HB.out (below_step HBB.out b5)))
              clear b5 own ho
              go_wp2_with fail
              go_ret3
              exact FIN.out
            have HL41 := Lib.hid (fun W => l11Byte_any s L HS.out q6 r6 hr6 41 41 rfl (by decide) ⟨by omega, hL⟩ _ rfl W)
            have y5 := (b5.block _ (heap_lt HYB.out)).trans HYB.out
            have HB5B := Lib.hid (below_step HBB.out b5)
            have OB6 := Lib.hid own6
            have HO6 := Lib.hid ho
            have HR6 := Lib.hid hr6
            have hbs : wr.heap.size < (((wa3.setCell ⟨wr.heap.size, 1, none⟩ (.int .i64 z)).setCell ⟨wr.heap.size, 0, none⟩ (.int .i64 3)).setCell ⟨wr.heap.size, 0, none⟩ (.int .i64 4)).heap.size := heap_lt HYB.out
            clear b5 own6 ho hr6
            go_wp2_with fail
            refine (HL41.out _).mono ?_
            rintro e w9 ⟨rfl, rfl⟩
            by_cases h41b : r6.headD 0 = 41
            rotate_left
            · rw [decide_eq_false h41b]
              have FIN := Lib.hid (FAIL.out (by rw [HON.out, HTC.out, restS_body _ _ _ (.inr rfl), if_pos H40.out, HO6.out, closeS_no _ _ _ h41b]) ((q2 + 1 : Nat) : Int) _ (below_step HB.out HB5B.out))
              clear h41b own y5
              go_wp2_with fail
              go_ret3
              exact FIN.out
            rw [decide_eq_true h41b]
            obtain ⟨hu1, hu2, hu3⟩ := drop_tail HR6.out h41b (by decide)
            obtain ⟨q3, hq3e⟩ : ∃ q3, q6 + 1 = q3 := ⟨_, rfl⟩
            obtain ⟨TB, hTBe⟩ : ∃ TB, r6.tail = TB := ⟨_, rfl⟩
            have hwq6 : IntKind.i64.wrap ((q6 : Int) + 1) = (q3 : Int) := (IntWalk.i64_in _ (by omega)).trans (by omega)
            have HTB : Hid (L.drop q3 = TB) := by unfold Hid; rw [← hq3e, hu3, hTBe]
            have hq3 : q3 ≤ L.length := by omega
            have k2 : wa5.cell? ⟨wr.heap.size, 2, none⟩ = some (.int .i64 0) := by rw [cell_of_heap y5]; rfl
            have f2 : wa5.frozen? ⟨wr.heap.size, 2, none⟩ = false := frozen_of_heap y5
            have hpq3 : p + 1 ≤ q3 := by
              have h1 := prsS_rest d _ _ _ HO6.out
              rw [← HR6.out, ← ht3x.out, List.length_drop, List.length_drop] at h1
              omega
            obtain ⟨w3, HW3⟩ : ∃ w3, Hid (w3 = wa5.setCell ⟨wr.heap.size, 2, none⟩ (.int .i64 ((n6 : Nat) : Int))) := ⟨_, rfl⟩
            have hz3 : w3.heap.size = wa5.heap.size := by rw [HW3.out]; simp
            have HY3 : Hid (w3.heap[wr.heap.size]? = some (.cells #[.int .i64 4, .int .i64 z, .int .i64 ((n6 : Nat) : Int)] 54 (0, 0))) := by unfold Hid; rw [HW3.out]; exact heap_set y5 (i := 2) _
            have hbw3 : Below wr.heap.size wr w3 := by rw [HW3.out]; exact HB5B.out.setCell (p := ⟨wr.heap.size, 2, none⟩) (Nat.le_refl _) _
            have hne9 : some (⟨wr.heap.size, 2, none⟩ : Addr).block ≠ (Value.slice A6 n6 c6).ownBlock := fun e => by
              have h9 := (OB6.out.lt _ e.symm).1
              dsimp only at h9
              omega
            obtain ⟨bs, hbse⟩ : ∃ bs, (((wa3.setCell ⟨wr.heap.size, 1, none⟩ (.int .i64 z)).setCell ⟨wr.heap.size, 0, none⟩ (.int .i64 3)).setCell ⟨wr.heap.size, 0, none⟩ (.int .i64 4)).heap.size = bs := ⟨_, rfl⟩
            have OB3 : Hid (w3.ownsRow bs 54 3 (.slice A6 n6 c6) n6 (rows R3.vs l6)) := by unfold Hid; rw [HW3.out, ← hbse]; exact own_setCell OB6.out hne9 _
            rw [hbse] at hbs
            have HNB := Lib.hid hn6
            have HONE : Hid (oneS (prsS d) S2 = some (⟨4, z, ((n6 : Nat) : Int)⟩, l6, TB)) := by
              unfold Hid
              have hu4 : r6 = 41 :: TB := by rw [← hTBe]; exact hu2
              rw [HON.out, HTC.out, restS_body _ _ _ (.inr rfl), if_pos H40.out, HO6.out, hu4, closeS_yes, hn6]
              rfl
            have hnn6 : ¬ ((n6 : Nat) : Int) < 0 := by omega
            clear hu2 hu3 hq3e hTBe h41b y5 hne9 OB6 hn6 hbse
            obtain ⟨w4, HW4, b4, x4⟩ := al1 w3 (.cells #[.int .i64 4, .int .i64 z, .int .i64 ((n6 : Nat) : Int)] 54)
            have HBW := Lib.hid (below_step hbw3 b4)
            have own4 := own_below' own HBW.out
            have hbz := (below_step HB.out HBW.out).size
            have HNE : Hid (some wr.heap.size ≠ (Value.slice AV lt cV).ownBlock) := by unfold Hid; intro e; have := (own.lt _ e.symm).2; omega
            have src4 : Src 3 w4 (.slice (some ⟨wa5.heap.size, 0, none⟩) 1 1) 1 (rows R3.vs [⟨4, z, ((n6 : Nat) : Int)⟩]) := Src.of_own (own_of_block (n := 1) (cap := 1) (s := 3) (xs := [.int .i64 4, .int .i64 z, .int .i64 ((n6 : Nat) : Int)]) (base := 0) (hz3 ▸ x4) (by omega) rfl (by omega) (by unfold maxLen; omega))
            have HY4 := Lib.hid ((b4.block _ (heap_lt HY3.out)).trans HY3.out)
            have OB4 := Lib.hid (own_below' OB3.out b4)
            have HAP6 : Hid ((Value.slice A6 n6 c6).ownBlock = none ∨ (Value.slice A6 n6 c6).ownBlock ≠ (Value.slice AV lt cV).ownBlock) := by
              cases hob : (Value.slice A6 n6 c6).ownBlock with
              | none => exact .inl rfl
              | some g =>
                refine .inr fun e => ?_
                have h1 := (OB3.out.lt _ hob).1
                have h2 := (own.lt _ e.symm).2
                omega
            have g0 : w3.cell? ⟨wr.heap.size, 0, none⟩ = some (.int .i64 4) := by rw [cell_of_heap HY3.out]; rfl
            have g1 : w3.cell? ⟨wr.heap.size, 1, none⟩ = some (.int .i64 z) := by rw [cell_of_heap HY3.out]; rfl
            have g2 : w3.cell? ⟨wr.heap.size, 2, none⟩ = some (.int .i64 ((n6 : Nat) : Int)) := by rw [cell_of_heap HY3.out]; rfl
            rw [HW3.out] at g0 g1 g2
            have hw34 : wr.heap.size < w4.heap.size := heap_lt HY4.out
            clear b4 x4 hbw3 own
            go_wp2_with (first
              | (at_builtin; rw [← HW3.out, ← HW4.out]; refine wpList_appy rfl _ _ _ rfl Tryd.underlying22 infoLoop rfl (by omega) w.heap.size own4 hbz rfl src4 rfl (one_rows_R3' _) (by unfold maxLen; omega) (by omega) ?_; intro V5 w5 own5 hg5 hl5; have HY5 := Lib.hid (grown_keep hg5 HY4.out HNE.out); have O65 := Lib.hid (OB4.out.kept hg5 HAP6.out); obtain ⟨A5, c5, rfl⟩ := own_form own5; have HB5 := Lib.hid (grown_below (below_step HB.out HBW.out) own4 (Nat.le_refl _) hg5); rw [← rows_app] at own5; have HO5 : Hid (w5.ownsRow w.heap.size 54 3 (.slice A5 (lt + 1) c5) (lt + 1) (rows R3.vs (ts ++ [⟨4, z, ((n6 : Nat) : Int)⟩]))) := own5; have hown5 := HO5.out; have hbz5 := HB5.out.size; clear own5 hg5 hl5 src4 own4 g0 g1 g2)
              | (at_builtin; refine wpList_appx rfl _ _ _ rfl Tryd.underlying22 infoLoop rfl (by omega) w.heap.size hown5 hbz5 rfl (Src.of_own O65.out) rfl (one_rows_R3' _) (by unfold maxLen; omega) (by omega) ?_; intro V7 w7 own7 hg7 hnil7; obtain ⟨A7, c7, rfl⟩ := own_form own7; have HB7 := Lib.hid (grown_below HB5.out hown5 (Nat.le_refl _) hg7); rw [← rows_app] at own7; have HO7 : Hid (w7.ownsRow w.heap.size 54 3 (.slice A7 (lt + 1 + n6) c7) (lt + 1 + n6) (rows R3.vs (ts ++ [⟨4, z, ((n6 : Nat) : Int)⟩] ++ l6))) := own7; clear own7 hg7 hnil7 hown5; rcases Nat.lt_or_ge 150 (lt + 1 + n6) with hlong | hlong))
            · have FIN := Lib.hid (PsPost.fail (L := L) (q3 : Int) (show prsS (d + 1) S = none by rw [HPL.out, HNN.out, ploop_long HONE.out (by rw [List.length_append, List.length_append, HLT.out, List.length_singleton, HNB.out]; exact hlong)]) HB7.out)
              have hlI : (150 : Int) < ((lt + 1 + n6 : Nat) : Int) := by omega
              go_wp2_with fail
              go_ret3
              exact FIN.out
            · have hlI : ¬ (150 : Int) < ((lt + 1 + n6 : Nat) : Int) := by omega
              have hlen : ¬ 150 < (ts ++ [(⟨4, z, ((n6 : Nat) : Int)⟩ : R3)] ++ l6).length := by rw [List.length_append, List.length_append, HLT.out, List.length_singleton, HNB.out]; omega
              have HLEN := Lib.hid hlen
              have HL11 := Lib.hid (fun W => l11Byte_any s L HS.out q3 TB HTB.out 59 59 rfl (by decide) ⟨by omega, hL⟩ _ rfl W)
              clear hlen
              go_wp2_with fail
              refine (HL11.out _).mono ?_
              rintro e w8 ⟨rfl, rfl⟩
              by_cases h59 : TB.headD 0 = 59
              · rw [decide_eq_true h59]
                obtain ⟨ht1, ht2, ht3⟩ := drop_tail HTB.out h59 (by decide)
                have HT3 := Lib.hid ht3
                have hT9 : TB.length = L.length - q3 := by rw [← HTB.out, List.length_drop]
                have hS9 : S2.length = L.length - p := by rw [← HSD.out, List.length_drop]
                have HNX : Hid (prsS (d + 1) S = ploop (prsS d) n' (ts ++ [⟨4, z, ((n6 : Nat) : Int)⟩] ++ l6) TB.tail) := by unfold Hid; rw [HPL.out, HNN.out, ploop_next HONE.out HLEN.out h59]
                have hTt : TB.tail.length = TB.length - 1 := by simp
                have hwq : IntKind.i64.wrap ((q3 : Int) + 1) = (q3 : Int) + 1 := IntWalk.i64_in _ (by omega)
                have hn9 := HNN.out
                clear h59 ht2 ht3
                go_wp2_with fail
                go_roundw
                case rel => exact ⟨q3 + 1, TB.tail, n', _, ts ++ [⟨4, z, ((n6 : Nat) : Int)⟩] ++ l6, rfl, by go_num, ht1, HT3, by omega, by have := HLEN.out; omega, HNX, by rw [List.length_append, List.length_append, HLT.out, List.length_singleton, HNB.out]; exact HO7, HB7⟩
                case measure => first | (simp [intOf]; done) | (simp [intOf]; omega)
              · rw [decide_eq_false h59]
                have FIN : Hid (PsPost L (prsS (d + 1) S) w (.returned (.tuple #[.slice A7 (lt + 1 + n6) c7, .int .i64 q3, .bool true])) w7) :=
                  .inr ⟨A7, lt + 1 + n6, c7, q3, ts ++ [⟨4, z, ((n6 : Nat) : Int)⟩] ++ l6, TB, by rw [HPL.out, HNN.out, ploop_done HONE.out HLEN.out h59], rfl, by rw [List.length_append, List.length_append, HLT.out, List.length_singleton, HNB.out], by omega, hq3, HTB.out, HO7.out, HB7.out⟩
                clear h59
                go_wp2_with fail
                go_ret3
                exact FIN.out
          have e63 : ((s[q2].toNat : Int) == 63) = false := hsgi 63 63 rfl h63
          have FIN := Lib.hid (FAILN.out (by rw [HON.out, HTC.out, restS_no _ _ _ h61 h42 h63]) ((q2 + 1 : Nat) : Int))
          clear hbf own b3 y3 hqsb hsgi
          go_wp2_with fail
          go_ret3
          exact FIN.out
end Go.Proofs.YtgcedfpjgdeakaaDoor

/- Contracts of the laws' helpers on []string: copy, compare, mark, look at the marks. For slices of at most 1048576 elements. -/
namespace Go.Proofs.YtgcedfpjgdeakaaDoor
open Go.RowKit

theorem infoStringS : (Tryd.prog.info? 9).map (fun i => (i.zero, i.size, i.bytes)) = some (some (Value.string ⟨#[]⟩), 1, 16) := by kernel_rfl

theorem ba_ext {x y : ByteArray} (h : x.toList = y.toList) : x = y := by
  rw [ByteArray.toList_eq, ByteArray.toList_eq] at h
  cases x; cases y
  simp at h
  rw [h]

/-- The size of a list of strings, as the laws reckon it. -/
def szStr (xs : List ByteArray) : Nat := xs.length + (xs.map ByteArray.size).sum
theorem szStr_len (xs : List ByteArray) : xs.length ≤ szStr xs := by unfold szStr; omega
theorem szStr_mem {xs : List ByteArray} {x : ByteArray} (h : x ∈ xs) : x.size ≤ szStr xs := by
  unfold szStr
  induction xs with
  | nil => cases h
  | cons y ys ih =>
    rw [List.map_cons, List.sum_cons, List.length_cons]
    rcases List.mem_cons.1 h with rfl | h
    · omega
    · have := ih h; omega
/-- The length and the first 'k' strings. -/
def szTo (xs : List ByteArray) (k : Nat) : Nat := xs.length + ((xs.take k).map ByteArray.size).sum
theorem szTo_succ {xs : List ByteArray} {k : Nat} {x : ByteArray} (h : xs[k]? = some x) : szTo xs (k + 1) = szTo xs k + x.size := by
  unfold szTo; rw [List.take_add_one, h]; simp; omega
theorem szTo_le (xs : List ByteArray) (k : Nat) : szTo xs k ≤ szStr xs := by
  unfold szTo szStr
  have h : xs.map ByteArray.size = (xs.take k).map ByteArray.size ++ (xs.drop k).map ByteArray.size := by rw [← List.map_append, List.take_append_drop]
  rw [h, List.sum_append]; omega
theorem szTo_all {xs : List ByteArray} {k : Nat} (h : xs.length ≤ k) : szTo xs k = szStr xs := by unfold szTo szStr; rw [List.take_of_length_le h]
end Go.Proofs.YtgcedfpjgdeakaaDoor

/- The laws' markText and markStringS: that they end, and what they write over. -/
namespace Go.Proofs.YtgcedfpjgdeakaaDoor
open Go.RowKit
set_option linter.all false

theorem fold_push2 (l : List UInt8) : ∀ s : ByteArray, (l.map fun b : UInt8 => (b.toNat : Int)).foldl (fun r n => r.push (UInt8.ofNat n.toNat)) s = ⟨(s.data.toList ++ l).toArray⟩ := by
  induction l with
  | nil => intro s; simp
  | cons b l ih =>
    intro s
    rw [List.map_cons, List.foldl_cons, ih]
    congr 1
    simp [ByteArray.push]
theorem run_str2 {w : World} {base : Nat} {v : Value} {l : List UInt8} (h : w.ownsRow base 5 1 v l.length (Lib.byteCells l)) : (convert 105 9 v).run Tryd.prog w = .ok (.string ⟨l.toArray⟩) w := by
  rcases h.2 with ⟨rfl, h0⟩ | ⟨g, cap, cur, rfl, _⟩
  · rw [run_convert_bytes_string w _ _ 5 _ _ _ Tryd.underlying105 Tryd.underlying5 Tryd.underlying9]
    have : l = [] := List.eq_nil_of_length_eq_zero h0
    subst this
    rfl
  · rw [run_convert_bytes_string w _ _ 5 _ _ _ Tryd.underlying105 Tryd.underlying5 Tryd.underlying9]
    have hf := run_firstCells_some (P := Tryd.prog) w 1 l.length ⟨g, 0, none⟩ l.length cap (Lib.byteCells l) (by simp [Lib.byteCells]) (h.cells (g := g) rfl)
    have e : Lib.byteCells l = (l.map fun b : UInt8 => (b.toNat : Int)).map (Value.int .u8) := by simp [Lib.byteCells]
    rw [e] at hf
    have hl : (loadCells ⟨g, 0, none⟩ l.length).run Tryd.prog w = .ok ((l.map fun b : UInt8 => (b.toNat : Int)).map (Value.int .u8)).toArray w := by simpa [Builtin.firstCells] using hf
    rw [run_bytesToString w _ _ _ _ hl, fold_push2]
    simp

/-- One digit, as a string. -/
theorem digit_str (wr : World) (k : Nat) : ∃ s1 : ByteArray, s1.size = 1 ∧ (convert 105 9 (.slice (some ⟨wr.heap.size, 0, none⟩) 1 1)).run Tryd.prog (wr.alloc (.cells #[.int .u8 (48 + (k : Int) % 10)] 5)) = .ok (.string s1) (wr.alloc (.cells #[.int .u8 (48 + (k : Int) % 10)] 5)) := by
  have e : (48 + (k : Int) % 10) = (((UInt8.ofNat (48 + k % 10)).toNat : Nat) : Int) := by
    rw [UInt8.toNat_ofNat', Nat.mod_eq_of_lt (by omega)]; omega
  have hO : (wr.alloc (.cells #[.int .u8 (48 + (k : Int) % 10)] 5)).ownsRow wr.heap.size 5 1 (.slice (some ⟨wr.heap.size, 0, none⟩) 1 1) [UInt8.ofNat (48 + k % 10)].length (Lib.byteCells [UInt8.ofNat (48 + k % 10)]) :=
    ⟨rfl, .inr ⟨wr.heap.size, 1, #[.int .u8 (48 + (k : Int) % 10)], rfl, Nat.le_refl _, heap_alloc_new _ _, Nat.le_refl _, by simp [maxLen], rfl, by show [Value.int .u8 (48 + (k : Int) % 10)] = [Value.int .u8 (((UInt8.ofNat (48 + k % 10)).toNat : Nat) : Int)]; rw [e]⟩⟩
  exact ⟨_, rfl, run_str2 hO⟩
end Go.Proofs.YtgcedfpjgdeakaaDoor

/- Numbers in decimal: the program's, for small numbers, and the reference's. -/
namespace Go.Proofs.YtgcedfpjgdeakaaDoor
open Go.RowKit
set_option linter.all false

theorem formatSmall (i : Nat) (hi : i < 100) (w : World) :
    Calls Tryd.prog 77 #[.int .i64 i, .int .i64 10] w fun e w' => e = .returned (.string ⟨(Lib.decDigits i).toArray⟩) ∧ w' = w := Any.strconv_FormatInt_10_small Tryd.layFormat i hi w
theorem decimal_small (i : Nat) (hi : i < 100) (w : World) :
    Calls Tryd.prog 42 #[.int .i64 i] w fun e w' => e = .returned (.string ⟨(Lib.decDigits i).toArray⟩) ∧ w = w' := by
  go_enter Tryd.func42, Tryd.ntmps42
  go_wp2_with (go_at_call 77; refine (formatSmall i hi _).mono ?_; rintro e w' ⟨rfl, rfl⟩)
  go_ret
  exact ⟨rfl, rfl⟩

theorem strings_Join_any (bk o n c : Nat) (xs : List ByteArray) (sep : ByteArray) (w : World) (hn : xs.length = n)
    (hcells : ∀ (j : Nat) x, xs[j]? = some x → w.cell? ⟨bk, o + j, none⟩ = some (.string x))
    (hbk : bk < w.heap.size) (hN : n ≤ 140737488355328) (hcap : n ≤ c)
    (hlen : (Lib.join (xs.map (·.data.toList)) sep.data.toList).length ≤ 140737488355328) :
    Calls Tryd.prog 43 #[.slice (some ⟨bk, o, none⟩) n c, .string sep] w fun e w' => e = .returned (.string ⟨(Lib.join (xs.map (·.data.toList)) sep.data.toList).toArray⟩) ∧ Below w.heap.size w w' := by
  subst hn
  exact Any.strings_Join Tryd.layJoin Tryd.joinExtra bk o c xs sep w hcells hbk hN hcap hlen

/-- The digits, none for 0. -/
def digs (m : Nat) : List UInt8 := if m = 0 then [] else Lib.decDigits m
theorem digs_step {m : Nat} (h : m ≠ 0) : digs m = digs (m / 10) ++ [UInt8.ofNat (48 + m % 10)] := by
  unfold digs
  rw [if_neg h]
  by_cases h1 : m < 10
  · rw [Lib.decDigits_one h1, if_pos (by omega), show m % 10 = m by omega]; rfl
  · rw [if_neg (by omega), Lib.decDigits, dif_neg h1]
theorem digs_len (m : Nat) : (digs m).length ≤ m := by
  induction m using Nat.strongRecOn with
  | ind m ih =>
    by_cases h : m = 0
    · unfold digs; rw [if_pos h]; simp
    · rw [digs_step h, List.length_append, List.length_singleton]
      have := ih (m / 10) (by omega)
      omega
theorem infoByteD : (Tryd.prog.info? 5).map (fun i => (i.zero, i.size, i.bytes)) = some (some (Value.int .u8 0), 1, 1) := by kernel_rfl
theorem byteCells_snoc (l : List UInt8) (b : UInt8) : Lib.byteCells (l ++ [b]) = Lib.byteCells l ++ [.int .u8 (b.toNat : Int)] := by unfold Lib.byteCells; rw [List.map_append]; rfl
theorem byteCells_at {l : List UInt8} {k : Nat} {b : UInt8} (h : l[k]? = some b) : (Lib.byteCells l)[k]? = some (.int .u8 (b.toNat : Int)) := by unfold Lib.byteCells; rw [List.getElem?_map, h]; rfl
theorem byteCells_len (l : List UInt8) : (Lib.byteCells l).length = l.length := by unfold Lib.byteCells; rw [List.length_map]

set_option maxRecDepth 100000 in
set_option maxHeartbeats 2000000 in
theorem l01Dec_any (n : Nat) (hn : n ≤ 1048576) (w : World) :
    Calls Tryd.prog 50 #[.int .i64 n] w fun e w' => e = .returned (.string ⟨(Lib.decDigits n).toArray⟩) ∧ Below w.heap.size w w' := by
  by_cases h0 : n = 0
  · subst h0
    have h1 : Hid (Lib.decDigits 0 = [48]) := by unfold Hid; rw [Lib.decDigits_one (by omega)]; rfl
    go_enter Tryd.func50, Tryd.ntmps50
    go_wp2_with fail
    go_ret
    exact ⟨by rw [h1.out]; rfl, Below.refl _ _⟩
  have hnI : ¬ (n : Int) = 0 := by omega
  have hbe : ((n : Int) == 0) = false := by rw [beq_eq_false_iff_ne]; exact hnI
  have hneg : ¬ (n : Int) < 0 := by omega
  have HN0 := Lib.hid h0
  obtain ⟨wa, HWa, Ba, xa⟩ := al1 w (.cells #[] 5)
  have HO0 : Hid (wa.ownsRow w.heap.size 5 1 (.slice (some ⟨w.heap.size, 0, none⟩) 0 0) 0 (Lib.byteCells [])) := by
    have := own_of_block (n := 0) (cap := 0) (s := 1) (xs := []) (base := w.heap.size) xa (Nat.le_refl _) rfl (Nat.le_refl _) (Nat.zero_le _)
    unfold Hid
    simpa [Lib.byteCells] using this
  clear xa h0
  go_enter Tryd.func50, Tryd.ntmps50
  go_wp2_with fail
  rw [← HWa.out]
  go_loopw [3, 4] (fun d m wr => ∃ (k : Nat) (V : Value) (ds : List UInt8), m = .int .i64 k ∧ V = d ∧ k ≤ n ∧ Hid (wr.ownsRow w.heap.size 5 1 V ds.length (Lib.byteCells ds)) ∧ Hid (Below w.heap.size w wr) ∧ Hid (digs n = digs k ++ ds.reverse)) (fun _ m _ => (intOf m).toNat)
  case atStart => exact ⟨n, _, [], rfl, rfl, Nat.le_refl _, HO0, Ba, by unfold Hid; simp⟩
  case round =>
    obtain ⟨k, V, ds, rfl, rfl, hk, HO, HB, HD⟩ := hrel
    obtain ⟨ld, hld⟩ : ∃ l, ds.length = l := ⟨_, rfl⟩
    have HLD := Lib.hid hld
    have hll : ld ≤ 1048576 := by
      have h1 := congrArg List.length HD.out
      rw [List.length_append, List.length_reverse] at h1
      have := digs_len n
      omega
    have own := HO.out
    rw [hld] at own
    obtain ⟨AV, cV, hAV⟩ := own_form own
    subst hAV
    clear hld
    by_cases hz : k = 0
    · subst hz
      have e00 : ((0 : Nat) : Int) = 0 := rfl
      rw [e00]
      clear e00
      have HT : Hid (Lib.decDigits n = ds.reverse) := by
        have h1 := HD.out
        unfold digs at h1
        rw [if_neg HN0.out, if_pos rfl, List.nil_append] at h1
        exact h1
      obtain ⟨w3, HW3, b3, x3⟩ := al1 wr (.cells #[] 5)
      have HO3 : Hid (w3.ownsRow w.heap.size 5 1 (.slice (some ⟨wr.heap.size, 0, none⟩) 0 0) 0 (Lib.byteCells [])) := by
        have := own_of_block (n := 0) (cap := 0) (s := 1) (xs := []) (base := w.heap.size) x3 (by have := HB.out.size; omega) rfl (Nat.le_refl _) (Nat.zero_le _)
        unfold Hid
        simpa [Lib.byteCells] using this
      have HDS3 := Lib.hid (own_below' own b3)
      have HAP3 : Hid ((Value.slice (some ⟨wr.heap.size, 0, none⟩) 0 0).ownBlock ≠ (Value.slice AV ld cV).ownBlock) := by
        intro e
        have := (own.lt wr.heap.size e.symm).2
        omega
      have HB3 := Lib.hid (below_step HB.out b3)
      have hwl : IntKind.i64.wrap ((ld : Int) - 1) = (ld : Int) - 1 := IntWalk.i64_in _ (by omega)
      clear x3 b3 own
      go_wp2_with fail
      rw [← HW3.out]
      go_loopw [6, 7] (fun o i wr => ∃ (j : Nat) (z : Int) (V : Value), j ≤ ld ∧ i = .int .i64 z ∧ Hid (z = (j : Int) - 1) ∧ V = o ∧ Hid (wr.ownsRow w.heap.size 5 1 V ((ds.drop j).reverse).length (Lib.byteCells ((ds.drop j).reverse))) ∧ Hid (wr.ownsRow w.heap.size 5 1 (.slice AV ld cV) ld (Lib.byteCells ds)) ∧ Hid (V.ownBlock ≠ (Value.slice AV ld cV).ownBlock) ∧ Hid (Below w.heap.size w wr)) (fun _ i _ => (intOf i + 1).toNat)
      case atStart => exact ⟨ld, _, _, Nat.le_refl _, rfl, rfl, rfl, by rw [List.drop_of_length_le (Nat.le_of_eq HLD.out)]; exact HO3, HDS3, HAP3, HB3⟩
      case round =>
        obtain ⟨j, z, V, hj, rfl, hz, rfl, HOJ, HDJ, HAJ, HBJ⟩ := hrel
        cases j with
        | zero =>
          obtain rfl : z = -1 := hz.out
          have hstr := run_str2 (l := ds.reverse) (by have := HOJ.out; rw [List.drop_zero] at this; exact this)
          go_wp2_with fail
          go_ret
          exact ⟨by rw [HT.out]; rfl, HBJ.out⟩
        | succ p =>
          obtain rfl : z = (p : Int) := by have := hz.out; omega
          have hp0 : (0 : Int) ≤ (p : Int) := by omega
          have hpI : (p : Int) < (ld : Int) := by omega
          obtain ⟨b0, HB0⟩ := hget HLD (k := p) (by omega)
          have hag := arg_of_own HDJ.out
          obtain ⟨bd, od, hAV, hsd⟩ := hag.sl (k := p) (by omega)
          have hca : wr.cell? ⟨bd, od + p, none⟩ = some (.int .u8 (b0.toNat : Int)) := hsd.at (byteCells_at HB0.out)
          have HDR : Hid ((ds.drop p).reverse = (ds.drop (p + 1)).reverse ++ [b0]) := by
            unfold Hid
            obtain ⟨h1, h2⟩ := List.getElem?_eq_some_iff.1 HB0.out
            rw [List.drop_eq_getElem_cons h1, h2, List.reverse_cons]
          obtain ⟨lj, hlj⟩ : ∃ l, ((ds.drop (p + 1)).reverse).length = l := ⟨_, rfl⟩
          have HLJ := Lib.hid hlj
          have hlj2 : lj ≤ 1048576 := by rw [← hlj, List.length_reverse, List.length_drop, HLD.out]; omega
          have own := HOJ.out
          rw [hlj] at own
          obtain ⟨AW, cW, hAW⟩ := own_form own
          subst hAW
          obtain ⟨w4, HW4, b4, x4⟩ := al1 wr (.cells #[.int .u8 (b0.toNat : Int)] 5)
          have own4 := own_below' own b4
          have own4d := own_below' HDJ.out b4
          have HB4 := Lib.hid (below_step HBJ.out b4)
          have src4 : Src 1 w4 (.slice (some ⟨wr.heap.size, 0, none⟩) 1 1) 1 [.int .u8 (b0.toNat : Int)] := Src.of_own (own_of_block (n := 1) (cap := 1) (s := 1) (xs := [.int .u8 (b0.toNat : Int)]) (base := 0) x4 (by omega) rfl (by omega) (by unfold maxLen; omega))
          have hwp : IntKind.i64.wrap ((p : Int) - 1) = (p : Int) - 1 := IntWalk.i64_in _ (by omega)
          subst hAV
          clear hlj x4 b4 own hag hsd
          go_wp2_with (at_builtin; rw [← HW4.out]; refine wpList_appy rfl _ _ _ rfl Tryd.underlying105 infoByteD rfl (by omega) w.heap.size own4 HB4.out.size rfl src4 rfl (by simp [Value.oneCell']) (by unfold maxLen; omega) (by omega) ?_; intro V5 w5 own5 hg5 hl5)
          have HO5 : Hid (w5.ownsRow w.heap.size 5 1 V5 ((ds.drop p).reverse).length (Lib.byteCells ((ds.drop p).reverse))) := by unfold Hid; rw [HDR.out, List.length_append, HLJ.out, byteCells_snoc]; exact own5
          have HD5 := Lib.hid (own4d.kept hg5 (.inr HAJ.out.symm))
          have HA5 : Hid (V5.ownBlock ≠ (Value.slice (some ⟨bd, od, none⟩) ld cV).ownBlock) := by
            unfold Hid
            rcases hl5 with h1 | h1
            · rw [h1]; exact HAJ.out
            · rw [h1]; intro e2
              have := (own4d.lt _ e2.symm).2
              omega
          have HB5 := Lib.hid (grown_below HB4.out own4 (Nat.le_refl _) hg5)
          clear own4 own4d own5 hg5 hl5 src4
          go_roundw
          case rel => exact ⟨p, _, _, by omega, rfl, rfl, rfl, HO5, HD5, HA5, HB5⟩
          case measure => first | (simp [intOf]; done) | (simp [intOf]; omega)
    · have hzI : ¬ (k : Int) = 0 := by omega
      have hzb : ((k : Int) != 0) = true := by rw [bne_iff_ne]; exact hzI
      have hrem : (k : Int).tmod 10 = ((k % 10 : Nat) : Int) := by rfl
      have hquo : (k : Int).tdiv 10 = ((k / 10 : Nat) : Int) := by rfl
      obtain ⟨q, hq⟩ : ∃ q : Nat, k / 10 = q := ⟨_, rfl⟩
      obtain ⟨r, hr⟩ : ∃ r : Nat, k % 10 = r := ⟨_, rfl⟩
      rw [hr] at hrem; rw [hq] at hquo
      have hr10 : r < 10 := by omega
      have hrn : ¬ (r : Int) < 0 := by omega
      have hw1 : IntKind.i64.wrap (48 + (r : Int)) = 48 + (r : Int) := IntWalk.i64_in _ (by omega)
      have hw2 : IntKind.u8.wrap (48 + (r : Int)) = 48 + (r : Int) := by
        simp only [IntKind.wrap, IntKind.bits, IntKind.signed]
        first | omega | (simp; omega)
      have HDN : Hid (digs n = digs q ++ (ds ++ [UInt8.ofNat (48 + r)]).reverse) := by
        unfold Hid
        rw [HD.out, digs_step hz, hq, hr, List.reverse_append]; simp
      have hbv : Hid (((UInt8.ofNat (48 + r)).toNat : Int) = 48 + (r : Int)) := by unfold Hid; rw [UInt8.toNat_ofNat']; omega
      have hqk : Hid (q < k) := by unfold Hid; omega
      have hwq : IntKind.i64.wrap (q : Int) = (q : Int) := IntWalk.i64_in _ (by omega)
      obtain ⟨w1, HW1, b1, x1⟩ := al1 wr (.cells #[.int .u8 (48 + (r : Int))] 5)
      have own1 := own_below' own b1
      have HB1 := Lib.hid (below_step HB.out b1)
      have src1 : Src 1 w1 (.slice (some ⟨wr.heap.size, 0, none⟩) 1 1) 1 [.int .u8 (48 + (r : Int))] := Src.of_own (own_of_block (n := 1) (cap := 1) (s := 1) (xs := [.int .u8 (48 + (r : Int))]) (base := 0) x1 (by omega) rfl (by omega) (by unfold maxLen; omega))
      clear x1 b1 own hr hq
      go_wp2_with (at_builtin; rw [← HW1.out]; refine wpList_appx rfl _ _ _ rfl Tryd.underlying105 infoByteD rfl (by omega) w.heap.size own1 HB1.out.size rfl src1 rfl (by simp [Value.oneCell']) (by unfold maxLen; omega) (by omega) ?_; intro V2 w2 own2 hg2 hnil2)
      have HO2 : Hid (w2.ownsRow w.heap.size 5 1 V2 (ds ++ [UInt8.ofNat (48 + r)]).length (Lib.byteCells (ds ++ [UInt8.ofNat (48 + r)]))) := by unfold Hid; rw [List.length_append, HLD.out, byteCells_snoc, hbv.out]; exact own2
      have HB2 := Lib.hid (grown_below HB1.out own1 (Nat.le_refl _) hg2)
      clear own1 own2 hg2 hnil2 src1
      go_roundw
      case rel => exact ⟨q, _, ds ++ [UInt8.ofNat (48 + r)], rfl, rfl, by have := hqk.out; omega, HO2, HB2, HDN⟩
      case measure => have := hqk.out; simp [intOf]; omega
end Go.Proofs.YtgcedfpjgdeakaaDoor

/- A variable that holds a record: the block that holds its cells. Plain lemma. -/
namespace Go.Proofs.YtgcedfpjgdeakaaDoor
open Go.RowKit
theorem box_held {w : World} {k : Nat} {o : Obj} (h : w.heap[k]? = some o) : Held k (k + 1) (fun W => W.heap[k]? = some o) w :=
  ⟨heap_lt h, h, fun _ _ ha hk => (hk k (Nat.le_refl _) (Nat.lt_succ_self _)).trans ha⟩
end Go.Proofs.YtgcedfpjgdeakaaDoor

/- The text of a loop program, by the program. -/
namespace Go.Proofs.YtgcedfpjgdeakaaDoor
open Go.RowKit
set_option linter.all false

def strCell (t : List UInt8) : Value := .string ⟨t.toArray⟩
/-- The texts so far in their variable gl. -/
structure TxSt (w0 : World) (lo gl : Nat) (V : Value) (ts : List (List UInt8)) (W : World) : Prop where
  row : W.ownsRow lo 9 1 V ts.length (ts.map strCell)
  var : W.heap[gl]? = some (.cells #[V] 76 (0, 0))
  frame : Below w0.heap.size w0 W
  lo0 : w0.heap.size ≤ lo
  lo1 : lo ≤ W.heap.size
  gl0 : w0.heap.size ≤ gl
theorem TxSt.below {w0 : World} {lo gl : Nat} {V : Value} {ts : List (List UInt8)} {W W' : World} (h : TxSt w0 lo gl V ts W) (hb : Below W.heap.size W W') : TxSt w0 lo gl V ts W' :=
  ⟨own_below' h.row hb, (hb.block _ (heap_lt h.var)).trans h.var, below_step h.frame hb, h.lo0, Nat.le_trans h.lo1 hb.size, h.gl0⟩
theorem TxSt.add {w0 : World} {lo gl : Nat} {V V' : Value} {ts : List (List UInt8)} {t : List UInt8} {W W' : World} (h : TxSt w0 lo gl V ts W) (hg : W.grownBy W' V.ownBlock) (own' : W'.ownsRow lo 9 1 V' (ts.length + 1) (ts.map strCell ++ [strCell t])) :
    TxSt w0 lo gl V' (ts ++ [t]) (W'.setCell ⟨gl, 0, none⟩ V') := by
  have hv := grown_keep hg h.var (own_ne_block h.row h.var (by decide))
  have hs : (W'.setCell ⟨gl, 0, none⟩ V').heap.size = W'.heap.size := by simp [World.setCell]
  refine ⟨?_, ?_, ?_, h.lo0, ?_, h.gl0⟩
  · rw [List.length_append, List.map_append]
    exact own_setCell own' (fun e1 => own_ne_block own' hv (by decide) e1) V'
  · have := heap_set hv V' (i := 0)
    simpa using this
  · exact (grown_below h.frame h.row h.lo0 hg).setCell (p := ⟨gl, 0, none⟩) h.gl0 _
  · rw [hs]; exact Nat.le_trans h.lo1 hg.size

set_option maxRecDepth 100000 in
set_option maxHeartbeats 4000000 in
theorem txtAdd_any (x : R3) (m c gl lo : Nat) (A : Option Addr) (V : Value) (ts : List (List UInt8)) (B : List UInt8) (w0 w : World) (h : TxSt w0 lo gl V ts w) (hts : ts.length ≤ 1000) (hb : 0 ≤ x.b ∧ x.b ≤ 15) (hB : B.length ≤ 900)
    (hx : x.a = 0 ∨ x.a = 1 ∨ x.a = 3 ∨ x.a = 4 ∨ (x.a = 2 ∧ 0 ≤ x.c ∧ x.c ≤ 15))
    (hrec : Hid (∀ W, Below w.heap.size w W → Calls Tryd.prog 21 #[.slice A m c] W fun e w' => e = .returned (.string ⟨B.toArray⟩) ∧ Below W.heap.size W w')) :
    Calls Tryd.prog 41 #[.agg #[.int .i64 x.a, .int .i64 x.b, .int .i64 x.c], .slice A m c, .pointer (some ⟨gl, 0, none⟩)] w fun e w' => e = .returned (.tuple #[]) ∧ ∃ V', TxSt w0 lo gl V' (ts ++ [cmdT x B]) w' := by
  obtain ⟨xa, xb, xc⟩ := x
  dsimp only at hb hx
  obtain ⟨nb, rfl⟩ : ∃ nb : Nat, xb = nb := ⟨xb.toNat, by omega⟩
  obtain ⟨D, hD⟩ : ∃ D, Lib.decDigits nb = D := ⟨_, rfl⟩
  have HDEC : Hid (∀ W, Calls Tryd.prog 42 #[.int .i64 nb] W fun e w' => e = .returned (.string ⟨D.toArray⟩) ∧ W = w') := by
    intro W; rw [← hD]; exact decimal_small nb (by omega) W
  have HDL : Hid (D.length ≤ 2) := by have := decT_len (n := (nb : Int)) hb; unfold decT at this; rw [Int.toNat_natCast, hD] at this; exact this
  have HD : Hid (decT (nb : Int) = D) := by unfold Hid decT; rw [Int.toNat_natCast, hD]
  clear hD
  obtain ⟨lt, hlt⟩ : ∃ l, ts.length = l := ⟨_, rfl⟩
  have HLT := Lib.hid hlt
  rw [hlt] at hts
  have hrow := h.row
  rw [hlt] at hrow
  obtain ⟨AV, cV, hAV⟩ := own_form hrow
  subst hAV
  obtain ⟨CT, hCT⟩ : ∃ C, cmdT ⟨xa, (nb : Int), xc⟩ B = C := ⟨_, rfl⟩
  rw [hCT]
  have HCT := Lib.hid hCT
  obtain ⟨w1, HW1, B1, x1⟩ := al1 w (.cells #[.int .i64 xa, .int .i64 nb, .int .i64 xc] 54)
  have H1 := Lib.hid (h.below B1)
  have Q0 : Hid (w1.cell? ⟨w.heap.size, 0, none⟩ = some (.int .i64 xa)) := by unfold Hid; rw [cell_of_heap x1]; rfl
  have q1 : w1.cell? ⟨w.heap.size, 1, none⟩ = some (.int .i64 nb) := by rw [cell_of_heap x1]; rfl
  have Q2 : Hid (w1.cell? ⟨w.heap.size, 2, none⟩ = some (.int .i64 xc)) := by unfold Hid; rw [cell_of_heap x1]; rfl
  have v0 : w1.cell? ⟨gl, 0, none⟩ = some (.slice AV lt cV) := by rw [cell_of_heap H1.out.var]; rfl
  have HI := Lib.hid infoStringS
  have HBW := Lib.hid B1
  clear h hrow hlt hCT x1 B1
  go_enter Tryd.func41, Tryd.ntmps41
  go_wp2_with fail
  rw [← HW1.out]
  refine (HDEC.out _).mono ?_
  rintro e w' ⟨rfl, rfl⟩
  rcases hx with rfl | rfl | rfl | rfl | ⟨rfl, hc0, hc15⟩
  · have hrc := fun W => run_cat (P := Tryd.prog) [33] D (by have := HDL.out; simp; omega) W
    have e1 : Hid ([33] ++ D = CT) := by unfold Hid; rw [← HCT.out]; simp [cmdT, HD.out]
    rw [e1.out] at hrc
    have q0 : w1.cell? ⟨w.heap.size, 0, none⟩ = some (.int .i64 0) := Q0.out
    obtain ⟨w2, HW2, b2, x2⟩ := al1 w1 (.cells #[.string ⟨CT.toArray⟩] 9)
    have H2 := Lib.hid (H1.out.below b2)
    have own2 := H2.out.row
    rw [HLT.out] at own2
    have src2 : Src 1 w2 (.slice (some ⟨w1.heap.size, 0, none⟩) 1 1) 1 [.string ⟨CT.toArray⟩] := Src.of_own (own_of_block (n := 1) (cap := 1) (s := 1) (xs := [.string ⟨CT.toArray⟩]) (base := 0) x2 (by omega) rfl (by omega) (by unfold maxLen; omega))
    clear b2 x2
    go_wp2_with (at_builtin; rw [← HW2.out]; refine wpList_appx rfl _ _ _ rfl Tryd.underlying76 infoStringS rfl (by omega) lo own2 H2.out.lo1 rfl src2 rfl (by simp [Value.oneCell']) (by unfold maxLen; omega) (by omega) ?_; intro V3 w3 own3 hg3 hnil3; have TX : Hid (TxSt w0 lo gl V3 (ts ++ [CT]) (w3.setCell ⟨gl, 0, none⟩ V3)) := H2.out.add hg3 (by rw [HLT.out]; exact own3); have hv3 := grown_keep hg3 H2.out.var (own_ne_block H2.out.row H2.out.var (by decide)); have cv3 : w3.cell? ⟨gl, 0, none⟩ = some (.slice AV lt cV) := (by rw [cell_of_heap hv3]; rfl); have fv3 : w3.frozen? ⟨gl, 0, none⟩ = false := frozen_of_heap hv3; obtain ⟨A3, c3, rfl⟩ := own_form own3; clear hv3 own3 hg3 hnil3 src2 own2)
    go_end0
    have hlc := HLT.out
    exact ⟨rfl, _, TX.out⟩
  · have hrc := fun W => run_cat (P := Tryd.prog) [43] D (by have := HDL.out; simp; omega) W
    have e1 : Hid ([43] ++ D = CT) := by unfold Hid; rw [← HCT.out]; simp [cmdT, HD.out]
    rw [e1.out] at hrc
    have q0 : w1.cell? ⟨w.heap.size, 0, none⟩ = some (.int .i64 1) := Q0.out
    obtain ⟨w2, HW2, b2, x2⟩ := al1 w1 (.cells #[.string ⟨CT.toArray⟩] 9)
    have H2 := Lib.hid (H1.out.below b2)
    have own2 := H2.out.row
    rw [HLT.out] at own2
    have src2 : Src 1 w2 (.slice (some ⟨w1.heap.size, 0, none⟩) 1 1) 1 [.string ⟨CT.toArray⟩] := Src.of_own (own_of_block (n := 1) (cap := 1) (s := 1) (xs := [.string ⟨CT.toArray⟩]) (base := 0) x2 (by omega) rfl (by omega) (by unfold maxLen; omega))
    clear b2 x2
    go_wp2_with (at_builtin; rw [← HW2.out]; refine wpList_appx rfl _ _ _ rfl Tryd.underlying76 infoStringS rfl (by omega) lo own2 H2.out.lo1 rfl src2 rfl (by simp [Value.oneCell']) (by unfold maxLen; omega) (by omega) ?_; intro V3 w3 own3 hg3 hnil3; have TX : Hid (TxSt w0 lo gl V3 (ts ++ [CT]) (w3.setCell ⟨gl, 0, none⟩ V3)) := H2.out.add hg3 (by rw [HLT.out]; exact own3); have hv3 := grown_keep hg3 H2.out.var (own_ne_block H2.out.row H2.out.var (by decide)); have cv3 : w3.cell? ⟨gl, 0, none⟩ = some (.slice AV lt cV) := (by rw [cell_of_heap hv3]; rfl); have fv3 : w3.frozen? ⟨gl, 0, none⟩ = false := frozen_of_heap hv3; obtain ⟨A3, c3, rfl⟩ := own_form own3; clear hv3 own3 hg3 hnil3 src2 own2)
    go_end0
    have hlc := HLT.out
    exact ⟨rfl, _, TX.out⟩
  · obtain ⟨t1, ht1⟩ : ∃ t, D ++ [42, 40] = t := ⟨_, rfl⟩
    have hr1 := fun W => run_cat (P := Tryd.prog) D [42, 40] (by have := HDL.out; simp; omega) W
    rw [ht1] at hr1
    have hl1 : t1.length ≤ 4 := by rw [← ht1]; have := HDL.out; simp; omega
    obtain ⟨t2, ht2⟩ : ∃ t, t1 ++ B = t := ⟨_, rfl⟩
    have hr2 := fun W => run_cat (P := Tryd.prog) t1 B (by omega) W
    rw [ht2] at hr2
    have hl2 : t2.length ≤ 904 := by rw [← ht2, List.length_append]; omega
    have hr3 := fun W => run_cat (P := Tryd.prog) t2 [41] (by simp; omega) W
    have e1 : t2 ++ [41] = CT := by rw [← HCT.out, ← ht2, ← ht1]; simp [cmdT, HD.out]
    rw [e1] at hr3
    clear ht1 ht2 e1 hl1 hl2
    have q0 : w1.cell? ⟨w.heap.size, 0, none⟩ = some (.int .i64 3) := Q0.out
    go_wp2_with fail
    go_region_law ((first
      | (refine step_appx (by rfl) _ _ _ (by rfl) Tryd.underlying76 HI.out rfl (by omega) _ own4 H4.out.lo1 (by rfl) src4 (by rfl) (by simp [Value.oneCell']) (by unfold maxLen; omega) (by omega) ?_; intro V5 w5 own5 hg5 hnil5; have TX : Hid (TxSt w0 lo gl V5 (ts ++ [CT]) (w5.setCell ⟨gl, 0, none⟩ V5)) := H4.out.add hg5 (by rw [HLT.out]; exact own5); have hv5 := grown_keep hg5 H4.out.var (own_ne_block H4.out.row H4.out.var (by decide)); have cv5 : w5.cell? ⟨gl, 0, none⟩ = some (.slice AV lt cV) := (by rw [cell_of_heap hv5]; rfl); have fv5 : w5.frozen? ⟨gl, 0, none⟩ = false := frozen_of_heap hv5; obtain ⟨A5, c5, rfl⟩ := own_form own5; clear hv5 own5 hg5 hnil5)
      | (go_simp; go_at_call 21; refine (hrec.out _ HBW.out.drew).mono ?_; rintro e w3 ⟨rfl, b3⟩; have BX := below_step (Below.refl w1.heap.size w1).drew b3; have H4 := Lib.hid ((H1.out.below BX).below (laid_below w3 (.cells #[.string ⟨CT.toArray⟩] 9))); have own4 := H4.out.row; rw [HLT.out] at own4; have src4 : Src 1 (w3.alloc (.cells #[.string ⟨CT.toArray⟩] 9)) (.slice (some ⟨w3.heap.size, 0, none⟩) 1 1) 1 [.string ⟨CT.toArray⟩] := Src.of_own (own_of_block (n := 1) (cap := 1) (s := 1) (xs := [.string ⟨CT.toArray⟩]) (base := 0) (heap_alloc_new _ _) (by omega) rfl (by omega) (by unfold maxLen; omega)); have v3 : w3.cell? ⟨gl, 0, none⟩ = some (.slice AV lt cV) := cell_step (by exact v0) BX; have v4 : (w3.alloc (.cells #[.string ⟨CT.toArray⟩] 9)).cell? ⟨gl, 0, none⟩ = some (.slice AV lt cV) := cell_step v3 (laid_below _ _); clear b3)))
    all_goals
      go_wp2
      go_end0
      exact ⟨rfl, _, TX.out⟩
  · obtain ⟨t1, ht1⟩ : ∃ t, D ++ [63, 40] = t := ⟨_, rfl⟩
    have hr1 := fun W => run_cat (P := Tryd.prog) D [63, 40] (by have := HDL.out; simp; omega) W
    rw [ht1] at hr1
    have hl1 : t1.length ≤ 4 := by rw [← ht1]; have := HDL.out; simp; omega
    obtain ⟨t2, ht2⟩ : ∃ t, t1 ++ B = t := ⟨_, rfl⟩
    have hr2 := fun W => run_cat (P := Tryd.prog) t1 B (by omega) W
    rw [ht2] at hr2
    have hl2 : t2.length ≤ 904 := by rw [← ht2, List.length_append]; omega
    have hr3 := fun W => run_cat (P := Tryd.prog) t2 [41] (by simp; omega) W
    have e1 : t2 ++ [41] = CT := by rw [← HCT.out, ← ht2, ← ht1]; simp [cmdT, HD.out]
    rw [e1] at hr3
    clear ht1 ht2 e1 hl1 hl2
    have q0 : w1.cell? ⟨w.heap.size, 0, none⟩ = some (.int .i64 4) := Q0.out
    go_wp2_with fail
    go_region_law ((first
      | (refine step_appx (by rfl) _ _ _ (by rfl) Tryd.underlying76 HI.out rfl (by omega) _ own4 H4.out.lo1 (by rfl) src4 (by rfl) (by simp [Value.oneCell']) (by unfold maxLen; omega) (by omega) ?_; intro V5 w5 own5 hg5 hnil5; have TX : Hid (TxSt w0 lo gl V5 (ts ++ [CT]) (w5.setCell ⟨gl, 0, none⟩ V5)) := H4.out.add hg5 (by rw [HLT.out]; exact own5); have hv5 := grown_keep hg5 H4.out.var (own_ne_block H4.out.row H4.out.var (by decide)); have cv5 : w5.cell? ⟨gl, 0, none⟩ = some (.slice AV lt cV) := (by rw [cell_of_heap hv5]; rfl); have fv5 : w5.frozen? ⟨gl, 0, none⟩ = false := frozen_of_heap hv5; obtain ⟨A5, c5, rfl⟩ := own_form own5; clear hv5 own5 hg5 hnil5)
      | (go_simp; go_at_call 21; refine (hrec.out _ HBW.out.drew).mono ?_; rintro e w3 ⟨rfl, b3⟩; have BX := below_step (Below.refl w1.heap.size w1).drew b3; have H4 := Lib.hid ((H1.out.below BX).below (laid_below w3 (.cells #[.string ⟨CT.toArray⟩] 9))); have own4 := H4.out.row; rw [HLT.out] at own4; have src4 : Src 1 (w3.alloc (.cells #[.string ⟨CT.toArray⟩] 9)) (.slice (some ⟨w3.heap.size, 0, none⟩) 1 1) 1 [.string ⟨CT.toArray⟩] := Src.of_own (own_of_block (n := 1) (cap := 1) (s := 1) (xs := [.string ⟨CT.toArray⟩]) (base := 0) (heap_alloc_new _ _) (by omega) rfl (by omega) (by unfold maxLen; omega)); have v3 : w3.cell? ⟨gl, 0, none⟩ = some (.slice AV lt cV) := cell_step (by exact v0) BX; have v4 : (w3.alloc (.cells #[.string ⟨CT.toArray⟩] 9)).cell? ⟨gl, 0, none⟩ = some (.slice AV lt cV) := cell_step v3 (laid_below _ _); clear b3)))
    all_goals
      go_wp2
      go_end0
      exact ⟨rfl, _, TX.out⟩
  · obtain ⟨nc, rfl⟩ : ∃ nc : Nat, xc = nc := ⟨xc.toNat, by omega⟩
    obtain ⟨D2, hD2⟩ : ∃ D, Lib.decDigits nc = D := ⟨_, rfl⟩
    have HDEC2 : Hid (∀ W, Calls Tryd.prog 42 #[.int .i64 nc] W fun e w' => e = .returned (.string ⟨D2.toArray⟩) ∧ W = w') := by
      intro W; rw [← hD2]; exact decimal_small nc (by omega) W
    have HDL2 : Hid (D2.length ≤ 2) := by have := decT_len (n := (nc : Int)) ⟨hc0, hc15⟩; unfold decT at this; rw [Int.toNat_natCast, hD2] at this; exact this
    have HDT2 : Hid (decT (nc : Int) = D2) := by unfold Hid decT; rw [Int.toNat_natCast, hD2]
    clear hD2
    have q2 : w1.cell? ⟨w.heap.size, 2, none⟩ = some (.int .i64 (nc : Int)) := Q2.out
    obtain ⟨t1, ht1⟩ : ∃ t, D ++ [61] = t := ⟨_, rfl⟩
    have hr1 := fun W => run_cat (P := Tryd.prog) D [61] (by have := HDL.out; simp; omega) W
    rw [ht1] at hr1
    have hl1 : t1.length ≤ 3 := by rw [← ht1]; have := HDL.out; simp; omega
    have hr2 := fun W => run_cat (P := Tryd.prog) t1 D2 (by have := HDL2.out; omega) W
    have e1 : t1 ++ D2 = CT := by rw [← HCT.out, ← ht1]; simp [cmdT, HD.out, HDT2.out]
    rw [e1] at hr2
    clear ht1 e1 hl1
    have q0 : w1.cell? ⟨w.heap.size, 0, none⟩ = some (.int .i64 2) := Q0.out
    go_wp2_with fail
    go_region_law ((first
      | (refine step_appx (by rfl) _ _ _ (by rfl) Tryd.underlying76 HI.out rfl (by omega) _ own4 H4.out.lo1 (by rfl) src4 (by rfl) (by simp [Value.oneCell']) (by unfold maxLen; omega) (by omega) ?_; intro V5 w5 own5 hg5 hnil5; have TX : Hid (TxSt w0 lo gl V5 (ts ++ [CT]) (w5.setCell ⟨gl, 0, none⟩ V5)) := H4.out.add hg5 (by rw [HLT.out]; exact own5); have hv5 := grown_keep hg5 H4.out.var (own_ne_block H4.out.row H4.out.var (by decide)); have cv5 : w5.cell? ⟨gl, 0, none⟩ = some (.slice AV lt cV) := (by rw [cell_of_heap hv5]; rfl); have fv5 : w5.frozen? ⟨gl, 0, none⟩ = false := frozen_of_heap hv5; obtain ⟨A5, c5, rfl⟩ := own_form own5; clear hv5 own5 hg5 hnil5)
      | (go_simp; go_at_call 42; refine (HDEC2.out _).mono ?_; rintro e w3 ⟨rfl, hw3⟩; have BX : Below w1.heap.size w1 w3 := (by rw [← hw3]; exact (Below.refl w1.heap.size w1).drew); clear hw3; have H4 := Lib.hid ((H1.out.below BX).below (laid_below w3 (.cells #[.string ⟨CT.toArray⟩] 9))); have own4 := H4.out.row; rw [HLT.out] at own4; have src4 : Src 1 (w3.alloc (.cells #[.string ⟨CT.toArray⟩] 9)) (.slice (some ⟨w3.heap.size, 0, none⟩) 1 1) 1 [.string ⟨CT.toArray⟩] := Src.of_own (own_of_block (n := 1) (cap := 1) (s := 1) (xs := [.string ⟨CT.toArray⟩]) (base := 0) (heap_alloc_new _ _) (by omega) rfl (by omega) (by unfold maxLen; omega)); have v3 : w3.cell? ⟨gl, 0, none⟩ = some (.slice AV lt cV) := cell_step (by exact v0) BX; have v4 : (w3.alloc (.cells #[.string ⟨CT.toArray⟩] 9)).cell? ⟨gl, 0, none⟩ = some (.slice AV lt cV) := cell_step v3 (laid_below _ _))))
    all_goals
      go_wp2
      go_end0
      exact ⟨rfl, _, TX.out⟩
end Go.Proofs.YtgcedfpjgdeakaaDoor
