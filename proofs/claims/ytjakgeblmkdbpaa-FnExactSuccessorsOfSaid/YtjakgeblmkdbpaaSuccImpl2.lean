/- SuccessorsOf by the program: the words that are new, by a map of keys. -/
import Derived.Test.YtjakgeblmkdbpaaSuccImpl1
import Derived.Maps.OwnOps
import Derived.Maps.Views
namespace Go.Proofs.Ytjakgeblmkdbpaa
open Go.RowKit
open Go.Maps (Keyed)
set_option linter.all false

/-- An element that reads as a bool's datum is that bool. -/
theorem plainElem_bool_inv {H : Type} {P : Program} {e : TypeId} (he : P.underlying e = some .bool) {v : Value} {z : DataW H × List MemPlace} (h : plainElem P e v = some z) : ∃ x, v = .bool x ∧ z = (.lit (.bool x), []) := by
  unfold plainElem at h
  rw [he] at h
  cases v <;> simp at h
  exact ⟨_, rfl, h.symm⟩
/-- A look-up in a map of the call's own, elements of type bool. -/
theorem wpList_lookup_own_bool {H : Type} {P : Program} (w : World) {ops : Array Oper} {rest : List Oper} {o : Oper} {a : Act} {Q : Exit → Act → World → Prop}
    (hg : o.guard = none) (m x : Operand) (t : TypeId) (hop : o.op = Op.lookup t m x false)
    (k e : TypeId) (K : Keyed P k) (ht : P.underlying t = some (.map k e)) (he : P.underlying e = some .bool) (hz : (zeroValue e).run P w = .ok (.bool false) w) (b n : Nat) (D : DataW H)
    (hm : a.eval m = .map (some b)) (hown : w.ownsMap P k (plainElem P e) b n D) (key : Value) (kl : Lit) (hx : a.eval x = key) (hkey : keyOf P k key = some kl)
    (r : Bool) (hr : D.atKey kl (.lit (.bool false)) = .lit (.bool r))
    (hK : wpList P ops Q rest (a.put o.dst (.bool r)) w) :
    wpList P ops Q (o :: rest) a w := by
  refine wpList_plain hg fun K' hK' => ?_
  obtain ⟨v, ps, hrun, hv⟩ := hown.lookup K ht hz (plainElem_bool he false) hkey
  obtain ⟨c, rfl, hc⟩ := plainElem_bool_inv he hv
  simp only [Prod.mk.injEq] at hc
  obtain rfl : r = c := by
    have h1 := hc.1
    rw [hr] at h1
    injection h1 with h1
    injection h1
  unfold Oper.wp
  simp [execOp, hop, hm, hx, hrun, Result.andThen]
  exact hK' _ _ hK

theorem own_ne_map {w : World} {base : Nat} {e : TypeId} {size n : Nat} {v : Value} {xs : List Value} (h : w.ownsRow base e size v n xs) {H : Type} {P : Program} {k : TypeId} {R : Value → Option (DataW H × List MemPlace)} {b m : Nat} {D : DataW H} (hm : w.ownsMap P k R b m D) : some b ≠ v.ownBlock := by
  rcases h.2 with ⟨rfl, _⟩ | ⟨g, cap, cur, rfl, _, hg, _⟩
  · simp [Value.ownBlock]
  · intro e2
    have e3 : b = g := by injection e2
    subst e3
    obtain ⟨es, clock, hb, _⟩ := hm
    rw [hg] at hb
    cases hb

/-- Rows of a list, in its order. -/
def Pick (k : Nat) (vs us : List Value) (ts zs : List (List Int)) : Prop :=
  ∃ is : List Nat, is.Pairwise (· < ·) ∧ (∀ i ∈ is, i < k) ∧ us.length = is.length ∧ zs.length = is.length ∧ ∀ (j i : Nat), is[j]? = some i → us[j]? = vs[i]? ∧ zs[j]? = ts[i]?
theorem Pick.nil (vs : List Value) (ts : List (List Int)) : Pick 0 vs [] ts [] := ⟨[], List.Pairwise.nil, by simp, rfl, rfl, by simp⟩
theorem Pick.skip {k : Nat} {vs us : List Value} {ts zs : List (List Int)} (h : Pick k vs us ts zs) : Pick (k + 1) vs us ts zs := by
  obtain ⟨is, h1, h2, h3⟩ := h
  exact ⟨is, h1, fun i hi => by have := h2 i hi; omega, h3⟩
theorem Pick.push {k : Nat} {vs us : List Value} {ts zs : List (List Int)} {v : Value} {z : List Int} (h : Pick k vs us ts zs) (hv : vs[k]? = some v) (hz : ts[k]? = some z) : Pick (k + 1) vs (us ++ [v]) ts (zs ++ [z]) := by
  obtain ⟨is, h1, h2, h3, h4, h5⟩ := h
  refine ⟨is ++ [k], ?_, ?_, by simp [h3], by simp [h4], ?_⟩
  · rw [List.pairwise_append]
    refine ⟨h1, by simp, fun a ha b hb => ?_⟩
    have e : b = k := by simpa using hb
    rw [e]; exact h2 a ha
  · intro i hi
    rcases List.mem_append.1 hi with hi | hi
    · have := h2 i hi; omega
    · have e : i = k := by simpa using hi
      omega
  · intro j i hj
    rcases Nat.lt_or_ge j is.length with hl | hl
    · rw [List.getElem?_append_left hl] at hj
      rw [List.getElem?_append_left (by omega), List.getElem?_append_left (by omega)]
      exact h5 j i hj
    · rw [List.getElem?_append_right hl] at hj
      have hj0 : j - is.length = 0 := by
        rcases Nat.eq_zero_or_pos (j - is.length) with h | h
        · exact h
        · rw [List.getElem?_eq_none (by simp; omega)] at hj; cases hj
      rw [hj0] at hj
      have e : k = i := by simpa using hj
      subst e
      have ej : j = is.length := by omega
      subst ej
      rw [List.getElem?_append_right (by omega), List.getElem?_append_right (by omega), h3, h4, Nat.sub_self, hv, hz]
      exact ⟨rfl, rfl⟩
theorem Pick.inn {s lo hi k : Nat} {e : TypeId} {vs us : List Value} {ts zs : List (List Int)} {W : World} (h : Pick k vs us ts zs) (hi' : Inn s e lo hi vs (itsOf oneI ts) W) : Inn s e lo hi us (itsOf oneI zs) W := by
  obtain ⟨is, h1, h2, h3, h4, h5⟩ := h
  have hget : ∀ (j : Nat) (v : Value), us[j]? = some v → ∃ i, is[j]? = some i ∧ vs[i]? = some v ∧ zs[j]? = ts[i]? := by
    intro j v hv
    have hj : j < is.length := by rw [← h3]; exact (List.getElem?_eq_some_iff.1 hv).1
    have hi : is[j]? = some is[j] := List.getElem?_eq_getElem hj
    obtain ⟨a, b⟩ := h5 j _ hi
    exact ⟨_, hi, by rw [← a]; exact hv, b⟩
  refine ⟨by simp [itsOf, h3, h4], fun j v it hv hit => ?_, fun j v q hv hq => ?_, fun i j v u hij hv hu => ?_⟩
  · obtain ⟨i, hi1, hi2, hi3⟩ := hget j v hv
    refine hi'.own i v it hi2 ?_
    unfold itsOf at hit ⊢
    rw [List.getElem?_map] at hit ⊢
    rw [← hi3]; exact hit
  · obtain ⟨i, hi1, hi2, hi3⟩ := hget j v hv
    exact hi'.top i v q hi2 hq
  · obtain ⟨a, ha1, ha2, _⟩ := hget i v hv
    obtain ⟨b, hb1, hb2, _⟩ := hget j u hu
    refine hi'.apart a b v u ?_ ha2 hb2
    obtain ⟨l1, e1⟩ := List.getElem?_eq_some_iff.1 ha1
    obtain ⟨l2, e2⟩ := List.getElem?_eq_some_iff.1 hb1
    have := List.pairwise_iff_getElem.1 h1 i j l1 l2 hij
    rw [e1, e2] at this
    exact this

theorem zeroBool (w : World) : (zeroValue 4).run Try.prog w = .ok (.bool false) w := by kernel_rfl

/-- The map of the keys of some words. -/
def SeenAre (b n : Nat) (ms : List (List Int)) (W : World) : Prop :=
  ∃ D : DataW Unit, W.ownsMap Try.prog 9 (plainElem Try.prog 4) b n D ∧ Maps.IsMap D ∧ ∀ z, isWordB z = true → ∀ r : Bool, (r = true ↔ z ∈ ms) → D.atKey (.string (keyL z)) (.lit (.bool false)) = .lit (.bool r)
theorem keyB_data (z : List Int) : (keyB z).data.toList = keyL z := by unfold keyB; simp
theorem grown_of_below' {W W' : World} (h : Below W.heap.size W W') (row : Option Nat) : W.grownBy W' row := ⟨h.os, h.tape, h.output, h.size, fun k hk _ => h.block k hk⟩
theorem SeenAre.kept {b n : Nat} {ms : List (List Int)} {W W' : World} {row : Option Nat} (h : SeenAre b n ms W) (hg : W.grownBy W' row) (hne : some b ≠ row) : SeenAre b n ms W' := by
  obtain ⟨D, h1, h2⟩ := h
  exact ⟨D, h1.kept hg hne, h2⟩
theorem SeenAre.below {b n : Nat} {ms : List (List Int)} {W W' : World} (h : SeenAre b n ms W) (hb : Below W.heap.size W W') : SeenAre b n ms W' :=
  h.kept (grown_of_below' hb none) (by simp)
theorem SeenAre.start (w : World) : SeenAre w.heap.size 0 [] (w.alloc (.map #[] 0)) := by
  refine ⟨.map [], World.ownsMap_made _ _ _ _, Maps.isMap_empty, fun z _ r hr => ?_⟩
  have : r = false := by cases r with | false => rfl | true => have := hr.1 rfl; cases this
  subst this; rfl
theorem SeenAre.same {b n : Nat} {ms : List (List Int)} {z : List Int} {W : World} (h : SeenAre b n ms W) (hz : z ∈ ms) : SeenAre b (n + 1) (ms ++ [z]) W := by
  obtain ⟨D, h1, h2, h3⟩ := h
  refine ⟨D, h1.mono (Nat.le_succ _), h2, fun y hy r hr => h3 y hy r (hr.trans ?_)⟩
  rw [List.mem_append]
  constructor
  · rintro (h | h)
    · exact h
    · have e : y = z := by simpa using h
      rw [e]; exact hz
  · exact .inl
theorem seen_put {b n : Nat} {ms : List (List Int)} {z : List Int} {W : World} {D : DataW Unit} (hD : Maps.IsMap D) (h3 : ∀ z, isWordB z = true → ∀ r : Bool, (r = true ↔ z ∈ ms) → D.atKey (.string (keyL z)) (.lit (.bool false)) = .lit (.bool r)) (hz : isWordB z = true)
    (h1 : W.ownsMap Try.prog 9 (plainElem Try.prog 4) b (n + 1) (D.put (.string (keyL z)) (.lit (.bool true)))) : SeenAre b (n + 1) (ms ++ [z]) W := by
  refine ⟨_, h1, hD.put _ _, fun y hy r hr => ?_⟩
  by_cases e : y = z
  · subst e
    rw [Maps.atKey_put_same hD (by unfold WideAt.IsKeyLit; trivial)]
    have : r = true := hr.2 (by simp)
    rw [this]
  · rw [Maps.atKey_put_other (fun e2 => e (by injection e2 with e2; exact keyL_inj (word_digits hy) (word_digits hz) e2))]
    refine h3 y hy r (hr.trans ?_)
    rw [List.mem_append]
    constructor
    · rintro (h | h)
      · exact h
      · exact absurd (by simpa using h) e
    · exact .inl
theorem MvRow.keptBy {lo : Nat} {V : Value} {ps : List Mv} {ts : List (List Int)} {W W' : World} {row : Option Nat} (h : MvRow lo V ps ts W) (hg : W.grownBy W' row) (h1 : V.ownBlock = none ∨ V.ownBlock ≠ row) (h2 : ∀ u ∈ ps.map (·.u), u.ownBlock = none ∨ u.ownBlock ≠ row) : MvRow lo V ps ts W' := by
  refine ⟨h.own.kept hg h1, ⟨h.inn.len, fun j v it hv hit => (h.inn.own j v it hv hit).kept hg (h2 v (List.mem_of_getElem? hv)), ?_, h.inn.apart⟩⟩
  exact fun j v k hv hk => Nat.lt_of_lt_of_le (h.inn.top j v k hv hk) hg.size

theorem cells_ne_map {W : World} {g : Nat} {cs : Array Value} {t : TypeId} {fr : Nat × Nat} (hg : W.heap[g]? = some (.cells cs t fr)) {H : Type} {P : Program} {k : TypeId} {R : Value → Option (DataW H × List MemPlace)} {b m : Nat} {D : DataW H} (hm : W.ownsMap P k R b m D) : (some g : Option Nat) ≠ some b := by
  intro e2
  have e3 : g = b := by injection e2
  subst e3
  obtain ⟨es, clock, hb, _⟩ := hm
  rw [hg] at hb
  cases hb
theorem below_grownM {B b : Nat} {w w' w'' : World} (h : Below B w w') (hB : B ≤ w'.heap.size) (hg : w'.grownBy w'' (some b)) (hb : B ≤ b) : Below B w w'' :=
  ⟨hg.os.trans h.os, hg.tape.trans h.tape, hg.output.trans h.output, Nat.le_trans h.size hg.size, fun k hk => (hg.block k (by omega) (fun e => by injection e with e; omega)).trans (h.block k hk)⟩
theorem MvRow.map {lo : Nat} {V : Value} {ps : List Mv} {ts : List (List Int)} {W W' : World} (h : MvRow lo V ps ts W) {k : TypeId} {R : Value → Option (DataW Unit × List MemPlace)} {b m : Nat} {D : DataW Unit} (hm : W.ownsMap Try.prog k R b m D) (hg : W.grownBy W' (some b)) : MvRow lo V ps ts W' := by
  refine h.keptBy hg (.inr (own_ne_map h.own hm).symm) (fun u hu => ?_)
  obtain ⟨j, hj⟩ := List.getElem?_of_mem hu
  have hjl : j < (itsOf oneI ts).length := by rw [← h.inn.len]; exact (List.getElem?_eq_some_iff.1 hj).1
  exact .inr (own_ne_map (h.inn.own j u _ hj (List.getElem?_eq_getElem hjl)) hm).symm
theorem MvRow.row {lo : Nat} {V : Value} {ps : List Mv} {ts : List (List Int)} {W W' : World} (h : MvRow lo V ps ts W) {b s0 n : Nat} {t : TypeId} {V2 : Value} {cs : List Value} (ho : W.ownsRow b t s0 V2 n cs) (hg : W.grownBy W' V2.ownBlock) (h1 : 2 ≠ t) (h2 : 103 ≠ t) : MvRow lo V ps ts W' :=
  ⟨h.own.kept hg (own_apart_ty h.own ho h2), (h.inn.kept ho hg h1).wide hg.size⟩

set_option maxRecDepth 100000 in
set_option maxHeartbeats 2000000 in
theorem implSuccessorsOf_any (b off n c : Nat) (es : List ERewrite) (xs : List DRewrite) (b1 o1 n1 c1 : Nat) (x : List Int) (w : World) (hs : Sl w b off (rows ERewrite.vs es)) (hr : RcsRewrite w es) (hd : es.map (·.d) = xs) (hl : xs.length = n) (hn : n ≤ 1048576) (hc : n ≤ c) (ht : sumRewrite xs ≤ 1048576) (wf : ∀ x ∈ xs, x.wf) (hs1 : Sl w b1 o1 (x.map (.int .i64))) (hl1 : x.length = n1) (hn1 : n1 ≤ 1048576) (hc1 : n1 ≤ c1) (wf1 : Wf64s x) :
    Calls Try.prog 19 #[.slice (some ⟨b, off, none⟩) n c, .slice (some ⟨b1, o1, none⟩) n1 c1] w fun e w' => ∃ v us, e = .returned (.tuple #[v, .int .i64 (succsOf xs x).2]) ∧
      Grid w.heap.size w'.heap.size 25 1 v (succsOf xs x).1.length us 2 1 us (itsOf oneI (succsOf xs x).1) w' ∧ Below w.heap.size w w' := by
  clear wf wf1
  have hnil : ∀ (W : World) (v : Int), succsOf xs x = ([], v) → ∃ u us, Ending.returned (.tuple #[.slice none 0 0, .int .i64 v]) = .returned (.tuple #[u, .int .i64 (succsOf xs x).2]) ∧ Grid w.heap.size W.heap.size 25 1 u (succsOf xs x).1.length us 2 1 us (itsOf oneI (succsOf xs x).1) W := by
    intro W v h
    rw [h]
    exact ⟨_, [], rfl, World.ownsRow_nil _ _ _ _, Inn.nil _ _ _ _ _, fun k hk => by cases hk⟩
  have HNIL := Lib.hid hnil
  clear hnil
  have HL := Lib.hid hl; have HL1 := Lib.hid hl1; have HD := Lib.hid hd; have HT := Lib.hid ht
  clear hl hl1 hd ht
  rcases Bool.eq_false_or_eq_true (validRws xs) with h1 | h1
  rotate_left
  · have HV := Lib.hid h1; clear h1
    have HF : Hid (succsOf xs x = ([], 1)) := by unfold Hid succsOf; rw [HV.out]; rfl
    go_enter Try.func19, Try.ntmps19
    go_wp2_with fail
    refine (implValidRewrites_is b off n c es xs false HV.out _ hs hr HD.out HL.out hn HT.out).mono ?_
    rintro e w' ⟨rfl, hb⟩
    go_wp2_with fail
    go_ret2
    obtain ⟨u, us, h1, h2⟩ := HNIL.out w' 1 HF.out
    exact ⟨u, us, h1, h2, hb⟩
  have HV := Lib.hid h1; clear h1
  rcases Bool.eq_false_or_eq_true (isWordB x) with h2 | h2
  rotate_left
  · have HW := Lib.hid h2; clear h2
    have HF : Hid (succsOf xs x = ([], 1)) := by unfold Hid succsOf; rw [HW.out, Bool.and_false]; rfl
    go_enter Try.func19, Try.ntmps19
    go_wp2_with fail
    refine (implValidRewrites_is b off n c es xs true HV.out _ hs hr HD.out HL.out hn HT.out).mono ?_
    rintro e w' ⟨rfl, hb⟩
    go_wp2_with fail
    refine (isWord_is b1 o1 n1 c1 x false HW.out _ (hs1.below' hb) HL1.out (by omega)).mono ?_
    rintro e w2 ⟨rfl, rfl⟩
    go_wp2_with fail
    go_ret2
    obtain ⟨u, us, h1, h2⟩ := HNIL.out w' 1 HF.out
    exact ⟨u, us, h1, h2, hb⟩
  have HW := Lib.hid h2; clear h2
  have HF : Hid (succsOf xs x = (dedup (movesIn xs x), 0)) := by unfold Hid succsOf; rw [HV.out, HW.out]; rfl
  go_enter Try.func19, Try.ntmps19
  go_wp2_with fail
  refine (implValidRewrites_is b off n c es xs true HV.out _ hs hr HD.out HL.out hn HT.out).mono ?_
  rintro e w1 ⟨rfl, hb1⟩
  go_wp2_with fail
  refine (isWord_is b1 o1 n1 c1 x true HW.out _ (hs1.below' hb1) HL1.out (by omega)).mono ?_
  rintro e w2 ⟨rfl, rfl⟩
  go_wp2_with fail
  refine (movesOf_any b off n c es xs b1 o1 n1 c1 x _ (hs.below' hb1) (hr.below hb1) HD.out HL.out hn HT.out (hs1.below' hb1) HL1.out hn1 hc1 HV.out HW.out).mono ?_
  rintro e w2 ⟨Vm, F, ps, rfl, hmv, hb2⟩
  have HMW : Hid (∀ z ∈ movesIn xs x, isWordB z = true) := fun z hz => movesIn_word HV.out HW.out hz
  have hmlen : (movesIn xs x).length ≤ 24060 := by
    have h2 := movesIn_len x xs
    have h3 := (validRws_len HV.out).2
    have h4 := isWord_len HW.out
    have h5 : xs.length * (x.length + 1) ≤ 60 * 401 := Nat.mul_le_mul h3 (by omega)
    omega
  obtain ⟨mvs, hmvs⟩ : ∃ m, movesIn xs x = m := ⟨_, rfl⟩
  rw [hmvs] at hmv hmlen HMW
  have HMVS := Lib.hid hmvs; clear hmvs
  have hpl := hmv.len
  obtain ⟨m, hm⟩ : ∃ m, ps.length = m := ⟨_, rfl⟩
  have HM := Lib.hid hm
  have HTL : Hid (mvs.length = m) := by unfold Hid; omega
  have hm24 : m ≤ 24060 := by omega
  have hown := hmv.own
  rw [hm] at hown
  obtain ⟨Am, cm, hAm⟩ := own_form hown
  subst hAm
  have HB2 := Lib.hid (below_step hb1 hb2)
  have HMV2 : Hid (MvRow w.heap.size (.slice Am m cm) ps mvs w2) := ⟨own_base hmv.own hb1.size, ⟨hmv.inn.len, fun j v it h1 h2 => own_base (hmv.inn.own j v it h1 h2) hb1.size, hmv.inn.top, hmv.inn.apart⟩⟩
  clear hm hmv hpl hown hb1 hb2 hs hr hs1 hmlen
  obtain ⟨wb, HWb, bb, xa, xb⟩ := al2 w2 (.map #[] 0) (.cells #[] 25)
  have HSEEN : Hid (SeenAre w2.heap.size 0 [] wb) := by
    unfold Hid
    rw [HWb.out]
    exact (SeenAre.start w2).below (laid_below _ _)
  have HOWN : Hid (wb.ownsRow w.heap.size 25 1 (.slice (some ⟨w2.heap.size + 1, 0, none⟩) 0 0) 0 []) := by
    have := own_of_block (n := 0) (cap := 0) (s := 1) (xs := []) (base := w.heap.size) xb (by have := HB2.out.size; omega) rfl (Nat.le_refl _) (Nat.zero_le _)
    unfold Hid
    simpa using this
  have HMVB := Lib.hid (HMV2.out.below bb)
  have HBB := Lib.hid (below_step HB2.out bb)
  obtain ⟨bm, hbm⟩ : ∃ bm, bm = w2.heap.size := ⟨_, rfl⟩
  have hmm := @run_makeMap Try.prog
  clear xa xb bb
  go_wp2_with fail
  rw [← HWb.out]
  rw [← hbm] at HSEEN ⊢
  rw [← hbm] at HOWN
  have HBM : Hid (w.heap.size ≤ bm) := by unfold Hid; rw [hbm]; exact HB2.out.size
  clear hbm hmm
  have law := Go.Maps.string_keyed Try.underlying9
  go_loopw [9, 31] (fun o t wr => ∃ (k : Nat) (V : Value) (us : List Value), k ≤ m ∧ t = .int .i64 k ∧ V = o ∧ Hid (SeenAre bm k (mvs.take k) wr) ∧ Hid (wr.ownsRow w.heap.size 25 1 V us.length us) ∧ Hid (Pick k (ps.map (·.u)) us mvs (dedup (mvs.take k))) ∧ Hid (MvRow w.heap.size (.slice Am m cm) ps mvs wr) ∧ Hid (Below w.heap.size w wr)) (fun _ t _ => m - (intOf t).toNat)
  case atStart => exact ⟨0, _, [], Nat.zero_le _, rfl, rfl, by simpa using HSEEN, HOWN, by unfold Hid; simpa [dedup] using Pick.nil (ps.map (·.u)) mvs, HMVB, HBB⟩
  case round =>
    obtain ⟨k, V, us, hk, rfl, rfl, HSK, HOK, HPK, HMK, HBK⟩ := hrel
    by_cases hlt : k < m
    · obtain ⟨mv, HX⟩ := hget HM hlt
      obtain ⟨z, HZ⟩ := hget HTL hlt
      have HZW := Lib.hid (HMW.out z (List.mem_of_getElem? HZ.out))
      have hkI : (k : Int) < (m : Int) := by omega
      have hk0 : (0 : Int) ≤ (k : Int) := by omega
      have hownm := HMK.out.own
      rw [HM.out] at hownm
      have hag := args_of_own hownm
      obtain ⟨bv, ov, hAm, hsv⟩ := hag.sl (s := 3) (k := k) hlt
      have p0 : wr.cell? ⟨bv, ov + k * 3, none⟩ = some (.int .i64 mv.a) := Sl.rec (f := Mv.vs) (s := 3) (fun _ => rfl) hsv HX.out (j := 0) rfl
      have p1 : wr.cell? ⟨bv, ov + k * 3 + 1, none⟩ = some (.int .i64 mv.b) := Sl.rec (f := Mv.vs) (s := 3) (fun _ => rfl) hsv HX.out (j := 1) rfl
      have p2 : wr.cell? ⟨bv, ov + k * 3 + 2, none⟩ = some mv.u := Sl.rec (f := Mv.vs) (s := 3) (fun _ => rfl) hsv HX.out (j := 2) rfl
      have HU : Hid ((ps.map (·.u))[k]? = some mv.u) := by unfold Hid; rw [List.getElem?_map, HX.out]; rfl
      have hou := HMK.out.inn.own k mv.u (z.length, rows oneI z) HU.out (itsOf_at oneI HZ.out)
      rw [rows_oneI] at hou
      obtain ⟨lz, hlz⟩ : ∃ l, z.length = l := ⟨_, rfl⟩
      have HLZ := Lib.hid hlz
      have hz400 := isWord_len HZW.out
      rw [hlz] at hz400
      rw [show ((z.length, z.map (Value.int .i64)) : Nat × List Value).1 = lz from hlz] at hou
      obtain ⟨ma, mb, mu⟩ := mv
      dsimp only at p0 p1 p2 HU hou
      obtain ⟨Au, cu, hmu⟩ := own_form hou
      subst hmu
      subst hAm
      have HTK : Hid (mvs.take (k + 1) = mvs.take k ++ [z]) := by unfold Hid; rw [List.take_add_one, HZ.out]; rfl
      obtain ⟨w0, HW0, B0, x0⟩ := al1 wr (.cells #[.int .i64 ma, .int .i64 mb, .slice Au lz cu] 103)
      have k2 : w0.cell? ⟨wr.heap.size, 2, none⟩ = some (.slice Au lz cu) := by rw [cell_of_heap x0]; rfl
      have HOU := Lib.hid (own_below' hou B0)
      have HS0 := Lib.hid (HSK.out.below B0)
      have HO0 := Lib.hid (own_below' HOK.out B0)
      have HM0 := Lib.hid (HMK.out.below B0)
      have HB0 := Lib.hid (below_step HBK.out B0)
      have hplen : us.length ≤ m := by
        obtain ⟨is, _, _, _, h4, _⟩ := HPK.out
        have h1 := dedup_len (mvs.take k)
        rw [List.length_take] at h1
        have : us.length = (dedup (mvs.take k)).length := by omega
        omega
      have X0 := Lib.hid x0
      clear hlz hou hag hownm hsv x0
      go_wp2_with fail
      rw [← HW0.out]
      refine (keyOf_any Au lz cu z _ (arg_of_own HOU.out) HLZ.out (by omega) HZW.out).mono ?_
      rintro e w4 ⟨rfl, b4⟩
      have q2 := cell_step (by exact k2) b4
      have X4 : Hid (w4.heap[wr.heap.size]? = some (.cells #[.int .i64 ma, .int .i64 mb, .slice Au lz cu] 103 (0, 0))) := (b4.block _ (heap_lt X0.out)).trans X0.out
      obtain ⟨D, hD1, hD2, hD3⟩ := HS0.out.below b4
      have HO4 := Lib.hid (own_below' HO0.out b4)
      have HM4 := Lib.hid (HM0.out.below b4)
      have HB4 := Lib.hid (below_step HB0.out b4)
      have HKEY : keyOf Try.prog 9 (.string (keyB z)) = some (.string (keyL z)) := by
        rw [Go.WideMaps.keyOf_string_mk Try.underlying9 (show (keyB z).size ≤ maxLen by
          have e : (keyB z).size = (keyL z).length := by unfold keyB; simp [ByteArray.size]
          rw [e, keyL_len, HLZ.out]; unfold maxLen; omega), keyB_data]
      have HD2 := Lib.hid hD2; have HD3 := Lib.hid hD3
      obtain ⟨gb, hgb⟩ : ∃ gb, gb = wr.heap.size := ⟨_, rfl⟩
      rw [← hgb] at q2 X4 ⊢
      clear hgb k2 p0 p1 p2 b4 hD2 hD3
      by_cases hz : z ∈ mvs.take k
      · have HIN := Lib.hid hz; clear hz
        have hr : D.atKey (.string (keyL z)) (.lit (.bool false)) = .lit (.bool true) := HD3.out z HZW.out true (by simp [HIN.out])
        have HSE : Hid (SeenAre bm (k + 1) (mvs.take (k + 1)) w4) := by unfold Hid; rw [HTK.out]; exact SeenAre.same ⟨D, hD1, HD2.out, HD3.out⟩ HIN.out
        have HPN : Hid (Pick (k + 1) (ps.map (·.u)) us mvs (dedup (mvs.take (k + 1)))) := by unfold Hid; rw [HTK.out, dedup_old (dedup_mem.2 HIN.out)]; exact HPK.out.skip
        go_wp2_with (at_lookup; refine wpList_lookup_own_bool (H := Unit) _ rfl _ _ 101 rfl 9 4 law Try.underlying101 Try.underlying4 (zeroBool _) bm k D rfl hD1 _ _ rfl HKEY true hr ?_; clear hr hD1 HKEY q2)
        go_roundw
        case rel => exact ⟨k + 1, _, us, by omega, by go_num, rfl, HSE, HO4, HPN, HM4, HB4⟩
        case measure => simp [intOf]; omega
      · have HIN := Lib.hid hz; clear hz
        have hr : D.atKey (.string (keyL z)) (.lit (.bool false)) = .lit (.bool false) := HD3.out z HZW.out false (by simp [HIN.out])
        have HPN : Hid (Pick (k + 1) (ps.map (·.u)) (us ++ [.slice Au lz cu]) mvs (dedup (mvs.take (k + 1)))) := by unfold Hid; rw [HTK.out, dedup_new (fun h => HIN.out (dedup_mem.1 h))]; exact HPK.out.push HU.out HZ.out
        obtain ⟨lu, hlu⟩ : ∃ l, us.length = l := ⟨_, rfl⟩
        have HLU := Lib.hid hlu
        have own4 := HO4.out
        rw [hlu] at own4 hplen
        obtain ⟨AV, cV, hAV⟩ := own_form own4
        subst hAV
        clear hlu
        go_wp2_with (first
          | (at_lookup; refine wpList_lookup_own_bool (H := Unit) _ rfl _ _ 101 rfl 9 4 law Try.underlying101 Try.underlying4 (zeroBool _) bm k D rfl hD1 _ _ rfl HKEY false hr ?_; clear hr)
          | (at_mapUpdate; refine wpList_mapUpdate_own _ rfl _ _ _ 101 rfl 9 4 law Try.underlying101 _ bm k D rfl hD1 (by unfold maxLen; omega) _ _ _ rfl rfl HKEY (.lit (.bool true)) [] (plainElem_bool Try.underlying4 true) ?_; intro w5 hown5 hg5; have HS5 : Hid (SeenAre bm (k + 1) (mvs.take (k + 1)) w5) := (by unfold Hid; rw [HTK.out]; exact seen_put HD2.out HD3.out HZW.out hown5); have own5 := own4.kept hg5 (.inr (own_ne_map own4 hD1).symm); have HM5 := Lib.hid (HM4.out.map hD1 hg5); have HB5 := Lib.hid (below_grownM HB4.out HB4.out.size hg5 HBM.out); have q5 : w5.cell? ⟨gb, 2, none⟩ = some (.slice Au lz cu) := (by rw [cell_of_heap ((hg5.block gb (heap_lt X4.out) (cells_ne_map X4.out hD1)).trans X4.out)]; rfl); obtain ⟨w6, HW6, b6, x6⟩ := al1 w5 (.cells #[.slice Au lz cu] 25); have own6 := own_below' own5 b6; have HS6 := Lib.hid (HS5.out.below b6); have HM6 := Lib.hid (HM5.out.below b6); have HB6 := Lib.hid (below_step HB5.out b6); have src6 : Src 1 w6 (.slice (some ⟨w5.heap.size, 0, none⟩) 1 1) 1 [.slice Au lz cu] := Src.of_own (own_of_block (n := 1) (cap := 1) (s := 1) (xs := [.slice Au lz cu]) (base := 0) x6 (by omega) rfl (by omega) (by unfold maxLen; omega)); clear hown5 hg5 own4 own5 HS5 HM5 HB5 b6 x6 q2 hD1 HKEY)
          | (at_builtin; rw [← HW6.out]; refine wpList_appx rfl _ _ _ rfl Try.underlying43 infoInt64SS rfl (by omega) w.heap.size own6 HB6.out.size rfl src6 rfl (by simp [Value.oneCell']) (by unfold maxLen; omega) (by omega) ?_; intro V7 w7 own7 hg7 hnil7))
        have HS7 : Hid (SeenAre bm (k + 1) (mvs.take (k + 1)) w7) := by
          obtain ⟨D6, hd1, hd2⟩ := HS6.out
          exact ⟨D6, hd1.kept hg7 (own_ne_map own6 hd1), hd2⟩
        have HM7 := Lib.hid (HM6.out.row own6 hg7 (by decide) (by decide))
        have HB7 := Lib.hid (grown_below HB6.out own6 (Nat.le_refl _) hg7)
        have HO7 : Hid (w7.ownsRow w.heap.size 25 1 V7 (us ++ [Value.slice Au lz cu]).length (us ++ [Value.slice Au lz cu])) := by unfold Hid; rw [List.length_append, HLU.out]; exact own7
        clear own6 own7 hg7 hnil7 src6 q5
        go_roundw
        case rel => exact ⟨k + 1, _, us ++ [.slice Au lz cu], by omega, by go_num, rfl, HS7, HO7, HPN, HM7, HB7⟩
        case measure => simp [intOf]; omega
    · obtain rfl : k = m := by omega
      have hkI : ¬ (k : Int) < (k : Int) := by omega
      have HEX : Hid (mvs.take k = mvs) := List.take_of_length_le (by have := HTL.out; omega)
      go_wp2_with fail
      go_ret2
      have hp := HPK.out
      rw [HEX.out] at hp
      rw [HF.out, HMVS.out]
      have hi := hp.inn HMK.out.inn
      have hl : us.length = (dedup mvs).length := by have := hi.len; simpa [itsOf] using this
      exact ⟨_, rfl, ⟨us, by show World.ownsRow _ _ _ _ _ (dedup mvs).length _; rw [← hl]; exact HOK.out, hi, fun q hq => own_lt HOK.out hq⟩, HBK.out⟩
end Go.Proofs.Ytjakgeblmkdbpaa
