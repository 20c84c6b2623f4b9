/- SuccessorsOf by the reference: a word's key, the list of keys in rising order. -/
import Derived.Test.YtjakgeblmkdbpaaSuccPlain
import Derived.Test.YtjakgeblmkdbpaaWordsN
import Derived.Test.YtjakgeblmkdbpaaAppAt
import Derived.Test.YtjakgeblmkdbpaaMarkStr
import Derived.Test.YtjakgeblmkdbpaaCopy
import Derived.Deep.RegionLaw
import Derived.Laws.CopyOwn
namespace Go.Proofs.Ytjakgeblmkdbpaa
open Go.RowKit
set_option linter.all false

theorem infoByteS : (Try.prog.info? 5).map (fun i => (i.zero, i.size, i.bytes)) = some (some (Value.int .u8 0), 1, 1) := by kernel_rfl

theorem digit_u8 {a : Int} (h : 0 ≤ a ∧ a ≤ 9) : (Value.int .u8 ((UInt8.ofNat a.toNat).toNat : Int)) = .int .u8 a := by
  rw [UInt8.toNat_ofNat']
  congr 1
  omega
theorem keyL_cells {x : List Int} (h : ∀ a ∈ x, 0 ≤ a ∧ a ≤ 9) : Lib.byteCells (keyL x) = x.map (Value.int .u8) := by
  unfold Lib.byteCells keyL
  rw [List.map_map]
  apply List.map_congr_left
  intro a ha
  exact digit_u8 (h a ha)
theorem keyL_len (x : List Int) : (keyL x).length = x.length := by unfold keyL; rw [List.length_map]

set_option maxRecDepth 100000 in
set_option maxHeartbeats 1000000 in
theorem l10Key_any (b o n c : Nat) (xs : List Int) (w : World) (hs : Sl w b o (xs.map (Value.int .i64))) (hl : xs.length = n) (hn : n ≤ 1048576) (hw : isWordB xs = true) :
    Calls Try.prog 104 #[.slice (some ⟨b, o, none⟩) n c] w fun e w' => e = .returned (.string (keyB xs)) ∧ Below w.heap.size w w' := by
  have hmk := fun W => run_make_row' (P := Try.prog) 164 5 (Value.int .u8 0) 1 Try.underlying164 infoByteS rfl .i64 .i64 n (by omega) (by omega) W
  have hrow0 := World.rowIs_made w (Value.int .u8 0) n 5
  have hB0 : Below w.heap.size w (w.alloc (.cells (madeCells #[Value.int .u8 0] n) 5)) := (Below.refl _ _).alloc (Nat.le_refl _) _
  have HD := Lib.hid (word_digits hw); clear hw
  have HL := Lib.hid hl; clear hl
  go_enter Try.func104, Try.ntmps104
  go_wp2_with fail
  clear hmk
  go_loopw [4] (fun i wr => ∃ k : Nat, k ≤ n ∧ i = .int .i64 k ∧ wr.rowIs w.heap.size 5 n (fun j => if j < k then (xs.map (Value.int .u8)).getD j undef else (Value.int .u8 0)) ∧ Below w.heap.size w wr) (fun i _ => n - (intOf i).toNat)
  case atStart => exact ⟨0, Nat.zero_le _, rfl, hrow0.congr (fun i _ => by simp), hB0⟩
  case round =>
    obtain ⟨k, hk, rfl, hrow, hB⟩ := hrel
    clear hrow0 hB0
    by_cases hlt : k < n
    · obtain ⟨x, HX, hx⟩ := map_at (Value.int .i64) xs (k := k) (by have := HL.out; omega)
      have hca := (hs.below' hB).at hx
      have hco : wr.cell? ⟨w.heap.size, k, none⟩ = some (Value.int .u8 0) := by simpa using hrow.cell hlt
      have hfo := hrow.frozen k
      have HR := Lib.hid (hrow.set k ((Value.int .u8) x))
      have HB := Lib.hid (hB.setCell (p := ⟨w.heap.size, k, none⟩) (Nat.le_refl _) ((Value.int .u8) x))
      have hd := HD.out x (List.mem_of_getElem? HX.out)
      have hwx : IntKind.u8.wrap x = x := by
        have h1 := hd.1; have h2 := hd.2
        simp only [IntKind.wrap, IntKind.bits, IntKind.signed]
        first | omega | (simp; omega)
      clear hx hrow hB hs hd
      go_wp2_with fail
      go_roundw
      case rel =>
        refine ⟨k + 1, by omega, by go_num, HR.out.congr (fun i hi => ?_), HB.out⟩
        exact upd_at ((Value.int .u8)) xs k i x HX.out _
      case measure => simp [intOf]; omega
    · have hlen : (xs.map (Value.int .u8)).length = n := by rw [List.length_map]; exact HL.out
      have hown : wr.ownsRow w.heap.size 5 1 (.slice (some ⟨w.heap.size, 0, none⟩) n n) n (xs.map (Value.int .u8)) := own_of_rowIs hrow (Nat.le_refl _) (by unfold maxLen; omega) hlen (fun j u hu => by
        have hj : j < n := by rw [← hlen]; exact (List.getElem?_eq_some_iff.1 hu).1
        rw [if_pos (by omega), List.getD_eq_getElem?_getD, hu]; rfl)
      have hkl : (keyL xs).length = n := by rw [keyL_len]; exact HL.out
      have hstr := run_str2 (l := keyL xs) (by rw [hkl, keyL_cells HD.out]; exact hown)
      clear hown hrow
      go_wp2_with fail
      go_ret
      exact ⟨rfl, hB⟩

/-- A step of a region: 'copy' into a row; all other blocks as before. -/
theorem step_copy_far {P : Program} {ops : Array Oper} {o : Oper} {a : Act} {w : World} {K : Act → World → Prop} {Q : Exit → Act → World → Prop} {E : Prop} (hgd : o.guard = none) (d s : Operand) (dT sT : TypeId)
    (ho : o.op = .call { callee := .builtin .copy, args := #[d, s], argTypes := #[dT, sT] }) (elem : TypeId) (hu : P.underlying dT = some (.slice elem)) (hsz : (P.info? elem).map (·.size) = some 1)
    (dp sp : Option Addr) (dLen dCap sLen sCap : Nat) (hd : a.eval d = .slice dp dLen dCap) (hs : a.eval s = .slice sp sLen sCap)
    (g off : Nat) (cur : List Value) (t : TypeId) (hg : w.heap[g]? = some (.cells cur.toArray t (0, 0))) (cs : List Value) (hn : cs.length = Nat.min sLen dLen)
    (hpos : 0 < cs.length → dp = some ⟨g, off, none⟩ ∧ ∃ ad, sp = some ad ∧ ∀ j v, cs[j]? = some v → w.cell? (ad.add j) = some v)
    (hfit : off + cs.length ≤ cur.length) (h1 : ∀ v ∈ cs, v.oneCell' = true)
    (h : ∀ w', Hid (w'.heap[g]? = some (.cells (splice cur off cs).toArray t (0, 0))) → Hid (w.grownBy w' (some g)) → K (a.put o.dst (goInt cs.length)) w') :
    if Region.wanted o (yielded ops a.tmps) = true then Oper.wp P o a w K Q else E := by
  have hw : Region.wanted o (yielded ops a.tmps) = true := by simp [Region.wanted, hgd]
  rw [if_pos hw]
  by_cases h0 : cs.length = 0
  · obtain rfl : cs = [] := List.eq_nil_of_length_eq_zero h0
    have hrun := run_copy_none (P := P) w dT sT o.type elem dp sp dLen dCap sLen sCap hu hsz (by simpa using hn.symm)
    unfold Oper.wp
    simp [execOp, ho, resolve, invoke, builtin, hd, hs, hrun, Result.andThen]
    exact h w (show _ = _ by simpa [splice] using hg) (World.grownBy.refl _ _)
  · obtain ⟨rfl, ad, rfl, hsrc⟩ := hpos (by omega)
    have hrun := run_copy_row (P := P) w dT sT o.type elem g off dLen dCap ad sLen sCap cur.toArray t cs hu hsz hg hn hsrc (by simpa using hfit) h1
    unfold Oper.wp
    simp [execOp, ho, resolve, invoke, builtin, hd, hs, hrun, Result.andThen]
    exact h _ (show _ = _ by simpa [splice] using setRow_heap w g _ (splice cur off cs).toArray t _ hg) ⟨rfl, rfl, rfl, by simp [World.setRow], fun k _ hk => setRow_other w g k _ (fun e => hk (by rw [e]))⟩

theorem splice_put (cur cs : List Value) (p n : Nat) (hcs : cs.length = n - p) (hp : p ≤ n) (hc : n + 1 ≤ cur.length) (v : Value) : ((splice cur (p + 1) cs).set p v).take (n + 1) = cur.take p ++ v :: cs := by
  unfold splice
  have hx : cur[p]? = some cur[p] := List.getElem?_eq_getElem (by omega)
  have hl : (cur.take p).length = p := by rw [List.length_take]; omega
  rw [show cur.take (p + 1) = cur.take p ++ [cur[p]] by rw [List.take_add_one, hx, Option.toList_some], List.append_assoc, List.set_append_right _ _ (by omega), hl, Nat.sub_self, List.singleton_append, List.set_cons_zero]
  rw [show cur.take p ++ v :: (cs ++ cur.drop (p + 1 + cs.length)) = (cur.take p ++ v :: cs) ++ cur.drop (p + 1 + cs.length) by simp]
  rw [List.take_append_of_le_length (by rw [List.length_append, List.length_cons]; omega)]
  exact List.take_of_length_le (by rw [List.length_append, List.length_cons]; omega)
theorem splice_len (cur cs : List Value) (q : Nat) (h : q + cs.length ≤ cur.length) : (splice cur q cs).length = cur.length := by
  unfold splice
  rw [List.length_append, List.length_append, List.length_take, List.length_drop]
  omega
theorem arr_set (xs : List Value) (p : Nat) (v : Value) : xs.toArray.setIfInBounds p v = (xs.set p v).toArray := by simp

/-- What the list is behind an addition. -/
def AddRes (base n : Nat) (v : Value) (ks : List ByteArray) (key : ByteArray) (w : World) (e : Ending) (w' : World) : Prop :=
  ∃ (v' : Value) (ks' : List ByteArray) (fr : Bool), e = .returned (.tuple #[v', .bool fr]) ∧ (fr = true ↔ key ∉ ks) ∧
    w'.ownsRow base 9 1 v' ks'.length (ks'.map Value.string) ∧ Rising ks' ∧ (∀ x, x ∈ ks' ↔ x = key ∨ x ∈ ks) ∧ ks'.length ≤ n + 1 ∧ w.grownBy w' v.ownBlock

set_option maxRecDepth 100000 in
set_option maxHeartbeats 1000000 in
/-- A key is laid into a list of the call's own, in rising order, unless it is there. -/
theorem l10Add_any (base n : Nat) (v : Value) (ks : List ByteArray) (key : ByteArray) (w : World) (own : w.ownsRow base 9 1 v n (ks.map Value.string)) (hbase : base ≤ w.heap.size) (hn : n ≤ 1048576) (hr : Rising ks) :
    Calls Try.prog 103 #[v, .string key] w (AddRes base n v ks key w) := by
  have HL : Hid (ks.length = n) := by have := own.1; rw [List.length_map] at this; unfold Hid; omega
  obtain ⟨A, c, rfl⟩ := own_form own
  have HR := Lib.hid hr; clear hr
  have hAr := arg_of_own own
  have HO := Lib.hid own
  have HB := Lib.hid hbase
  clear own hbase
  go_enter Try.func103, Try.ntmps103
  go_wp2_with fail
  go_loopw [6, 7] (fun lo hi wr => ∃ p q : Nat, lo = .int .i64 p ∧ hi = .int .i64 q ∧ wr = w ∧ Hid (Place ks key p q)) (fun lo hi _ => (intOf hi).toNat - (intOf lo).toNat)
  case atStart => exact ⟨0, n, rfl, rfl, rfl, by have := Place.start ks key; rw [HL.out] at this; exact this⟩
  case round =>
    obtain ⟨p, q, rfl, rfl, rfl, HP⟩ := hrel
    have hpq := HP.out.le
    have hqn : q ≤ n := by have := HP.out.len; have := HL.out; omega
    by_cases hlt : p < q
    · obtain ⟨m, hm⟩ : ∃ m : Nat, m = (p + q) / 2 := ⟨_, rfl⟩
      have hm1 : p ≤ m := by omega
      have hm2 : m < q := by omega
      have hquo : ((p : Int) + (q : Int)).tdiv 2 = (m : Int) := by
        rw [hm, show (p : Int) + (q : Int) = ((p + q : Nat) : Int) by omega]
        rfl
      have hmn : m < n := by omega
      obtain ⟨a, HA, ha⟩ := map_at Value.string ks (k := m) (by have := HL.out; omega)
      obtain ⟨b, off, rfl, hs⟩ := hAr.sl hmn
      have hca := hs.at ha
      have hltI : (p : Int) < (q : Int) := by omega
      have hm0 : (0 : Int) ≤ (m : Int) := by omega
      have hmnI : (m : Int) < (n : Int) := by omega
      clear hm ha
      by_cases hlt2 : a.toList < key.toList
      · have hb : Op.bytesLess a.toList key.toList = true := by rw [baLt_dec, decide_eq_true hlt2]
        have HN := Lib.hid (HP.out.up HR.out hm2 HA.out hlt2)
        clear hlt2
        go_wp2_with fail
        go_roundw
        case rel => exact ⟨m + 1, q, by go_num, rfl, trivial, HN⟩
        case measure => simp [intOf]; omega
      · have hb : Op.bytesLess a.toList key.toList = false := by rw [baLt_dec, decide_eq_false hlt2]
        have HN := Lib.hid (HP.out.down HR.out hm1 hm2 HA.out hlt2)
        clear hlt2
        go_wp2_with fail
        go_roundw
        case rel => exact ⟨p, m, rfl, rfl, trivial, HN⟩
        case measure => simp [intOf]; omega
    · obtain rfl : p = q := by omega
      have hnlt : ¬ (p : Int) < (p : Int) := by omega
      by_cases hfound : ks[p]? = some key
      · have hp : p < n := by have := (List.getElem?_eq_some_iff.1 hfound).1; have := HL.out; omega
        have HF : Hid (key ∈ ks) := List.mem_of_getElem? hfound
        have ha : (ks.map Value.string)[p]? = some (Value.string key) := by rw [List.getElem?_map, hfound]; rfl
        obtain ⟨b, off, rfl, hs⟩ := hAr.sl hp
        have hca := hs.at ha
        have hp0 : (0 : Int) ≤ (p : Int) := by omega
        have hpI : (p : Int) < (n : Int) := by omega
        clear hfound ha hs hAr
        go_wp2_with fail
        go_ret2
        refine ⟨_, ks, false, rfl, by simp [HF.out], ?_, HR.out, fun x => ?_, by have := HL.out; omega, World.grownBy.refl _ _⟩
        · rw [HL.out]; exact HO.out
        · constructor
          · exact .inr
          · rintro (rfl | h)
            · exact HF.out
            · exact h
      have HK : Hid (key ∉ ks) := HP.out.fresh HR.out hfound
      have hfound' : ∀ a, ks[p]? = some a → (a.toList == key.toList) = false := by
        intro a ha
        rw [beq_eq_false_iff_ne]
        intro e
        rw [ByteArray.toList_eq, ByteArray.toList_eq] at e
        exact hfound (by rw [ha]; congr 1; cases a; cases key; simpa using e)
      have HPN : Hid (p ≤ n) := hqn
      have HI : Hid ((Try.prog.info? 9).map (·.size) = some 1) := by unfold Hid; obtain ⟨i, h1, _, h3, _⟩ := info_parts infoStringS; rw [h1]; simp [h3]
      by_cases hp : p < n
      · obtain ⟨a, HA, ha⟩ := map_at Value.string ks (k := p) (by have := HL.out; omega)
        have hne := hfound' a HA.out
        obtain ⟨b, off, rfl, hs⟩ := hAr.sl hp
        have hca := hs.at ha
        have hp0 : (0 : Int) ≤ (p : Int) := by omega
        have hpI : (p : Int) < (n : Int) := by omega
        clear hfound ha hs hAr hfound'
        obtain ⟨w1, HW1, B1, x1⟩ := al1 wr (.cells #[.string ⟨#[]⟩] 9)
        have own1 := own_below' HO.out B1
        have src1 : Src 1 w1 (.slice (some ⟨wr.heap.size, 0, none⟩) 1 1) 1 [.string ⟨#[]⟩] := Src.of_own (own_of_block (n := 1) (cap := 1) (s := 1) (xs := [.string ⟨#[]⟩]) (base := 0) x1 (by omega) rfl (by omega) (by unfold maxLen; omega))
        clear x1
        go_wp2_with (first | (at_builtin; rw [← HW1.out]; refine wpList_appy rfl _ _ _ rfl Try.underlying153 infoStringS rfl (by omega) base own1 (Nat.le_trans HB.out B1.size) rfl src1 rfl (by simp [Value.oneCell']) (by unfold maxLen; omega) (by omega) ?_; intro v2 w2 own2 hg2 hl2; clear src1 own1) | fail)
        obtain ⟨hlen2, hn2⟩ := own2
        rcases hn2 with ⟨_, h0⟩ | ⟨g, cap, cur, rfl, hbg, hgg, hncap, hcapm, hcur, htk⟩
        · omega
        obtain ⟨cl, rfl⟩ : ∃ cl : List Value, cur = cl.toArray := ⟨cur.toList, by simp⟩
        have hcl : cl.length = cap := by simpa using hcur
        have HTK : Hid (cl.take (n + 1) = ks.map Value.string ++ [.string ⟨#[]⟩]) := by unfold Hid; simpa using htk
        obtain ⟨t1, ho1, hs1⟩ := run_slice_tailR (P := Try.prog) 153 9 Try.underlying153 infoStringS g 0 (n + 1) cap (p + 1) ((p : Int) + 1) (by omega) (by omega) hncap
        obtain ⟨t2, ho2, hs2⟩ := run_slice_tailR (P := Try.prog) 153 9 Try.underlying153 infoStringS g 0 (n + 1) cap p (p : Int) rfl (by omega) hncap
        obtain ⟨l1, HL1⟩ : ∃ l, Hid (n + 1 - (p + 1) = l) := ⟨_, rfl⟩
        obtain ⟨l2, HL2⟩ : ∃ l, Hid (n + 1 - p = l) := ⟨_, rfl⟩
        obtain ⟨q1, HQ1⟩ : ∃ l, Hid (cap - (p + 1) = l) := ⟨_, rfl⟩
        obtain ⟨q2, HQ2⟩ : ∃ l, Hid (cap - p = l) := ⟨_, rfl⟩
        rw [HL1.out] at hs1 ho1; rw [HL2.out] at hs2 ho2; rw [HQ1.out] at hs1; rw [HQ2.out] at hs2
        obtain ⟨CS, HCS⟩ : ∃ CS : List Value, Hid (CS = (ks.drop p).map Value.string) := ⟨_, rfl⟩
        have HCL : Hid (CS.length = n - p) := by unfold Hid; rw [HCS.out, List.length_map, List.length_drop, HL.out]
        have HMIN : Hid (CS.length = Nat.min l2 l1) := by unfold Hid; have h1 := HL1.out; have h2 := HL2.out; have h3 := HPN.out; rw [HCL.out]; refine Eq.trans ?_ (Nat.min_eq_right (show l1 ≤ l2 by omega)).symm; omega
        have HFIT : Hid (p + 1 + CS.length ≤ cl.length) := by unfold Hid; rw [HCL.out, hcl]; have := HPN.out; omega
        have HONE : Hid (∀ v ∈ CS, v.oneCell' = true) := by
          unfold Hid; rw [HCS.out]; intro v hv
          obtain ⟨x, _, rfl⟩ := List.mem_map.1 hv
          rfl
        have HPOS : Hid (0 < CS.length → (some ⟨g, t1, none⟩ : Option Addr) = some ⟨g, p + 1, none⟩ ∧ ∃ ad : Addr, (some ⟨g, t2, none⟩ : Option Addr) = some ad ∧ ∀ j v, CS[j]? = some v → w2.cell? (ad.add j) = some v) := by
          intro hpos
          rw [HCL.out] at hpos
          have h1 := HL1.out; have h2 := HL2.out
          refine ⟨by rw [show t1 = p + 1 by omega], ⟨g, t2, none⟩, rfl, fun j v hj => ?_⟩
          rw [addr_add, cell_of_heap hgg, show t2 + j = p + j by omega]
          have hjl := (List.getElem?_eq_some_iff.1 hj).1
          rw [HCL.out] at hjl
          have h1 : (cl.take (n + 1))[p + j]? = some v := by
            rw [HTK.out, List.getElem?_append_left (by rw [List.length_map, HL.out]; omega)]
            rw [HCS.out, List.getElem?_map, List.getElem?_drop] at hj
            rw [List.getElem?_map]; exact hj
          rw [List.getElem?_take] at h1
          split at h1
          · simpa using h1
          · cases h1
        have HGG := Lib.hid hgg
        have hp0 : (0 : Int) ≤ (p : Int) := by omega
        have hwp : IntKind.i64.wrap ((p : Int) + 1) = (p : Int) + 1 := IntWalk.i64_in _ (by omega)
        have HG2 : Hid (wr.grownBy w2 (Value.slice (some ⟨b, off, none⟩) n c).ownBlock) := by
          unfold Hid
          refine World.grownBy.trans ?_ hg2
          rw [HW1.out]; exact World.grownBy_alloc _ _ _
        have HOB : Hid ((some g = (Value.slice (some ⟨b, off, none⟩) n c).ownBlock) ∨ wr.heap.size ≤ g) := by
          rcases hl2 with h | h
          · exact .inl h
          · right
            have h2 : g = w1.heap.size := by injection h
            rw [h2]; exact B1.size
        clear hgg htk hlen2 ho1 ho2 hcur hg2 hl2 HW1 B1
        go_region_held3 (fun _ => True) (trivial) ((refine step_copy_far (by rfl) _ _ _ _ (by rfl) 9 Try.underlying153 HI.out (some ⟨g, t1, none⟩) (some ⟨g, t2, none⟩) l1 q1 l2 q2 (by rfl) (by rfl) g (p + 1) cl 9 (by exact HGG.out) CS HMIN.out (by exact HPOS.out) HFIT.out HONE.out ?_; intro w4 HG4 HGR4))
        all_goals
          have hfz : w4.frozen? ⟨g, p, none⟩ = false := frozen_of_heap HG4.out
          have hsl := splice_len cl CS (p + 1) HFIT.out
          obtain ⟨x0, hx0⟩ : ∃ x, (splice cl (p + 1) CS)[p]? = some x := ⟨_, List.getElem?_eq_getElem (by rw [hsl]; omega)⟩
          have hcl4 : w4.cell? ⟨g, p, none⟩ = some x0 := by rw [cell_of_heap HG4.out]; simpa using hx0
          have hpI2 : (p : Int) < (n : Int) + 1 := by omega
          have HSL := Lib.hid hsl
          clear hx0 hsl hs1 hs2
          go_wp2_with fail
          go_ret2
          refine ⟨_, putAt ks p key, true, rfl, by simp [HK.out], ?_, putAt_rising HR.out HP.out HK.out, fun x => putAt_mem, Nat.le_of_eq (by rw [putAt_len, HL.out]), ?_⟩
          · have hh := heap_set HG4.out (i := p) (.string key)
            rw [arr_set] at hh
            have hf := own_of_block (n := n + 1) (cap := cap) (s := 1) hh hbg (by rw [List.length_set, HSL.out, hcl, Nat.mul_one]) hncap hcapm
            rw [Nat.mul_one, splice_put cl CS p n HCL.out HPN.out (by omega)] at hf
            have e1 : cl.take p = (ks.take p).map Value.string := by
              have h2 := congrArg (List.take p) HTK.out
              rw [List.take_take, show min p (n + 1) = p by have := HPN.out; omega, List.take_append_of_le_length (by rw [List.length_map, HL.out]; exact HPN.out), ← List.map_take] at h2
              exact h2
            have e2 : (putAt ks p key).map Value.string = cl.take p ++ .string key :: CS := by
              rw [e1, HCS.out]; unfold putAt; rw [List.map_append, List.map_cons]
            rw [e2, putAt_len, HL.out]
            exact hf
          · refine World.grownBy.andThen (b' := w2) HG2.out (row' := some g) ?_ (fun j hj => ?_)
            · refine World.grownBy.trans (b := w4) ⟨HGR4.out.os, HGR4.out.tape, HGR4.out.output, HGR4.out.size, HGR4.out.block⟩ ?_
              exact ⟨rfl, rfl, rfl, by simp [World.setCell], fun k _ hk => Below.heap_setCell w4 ⟨g, p, none⟩ (.string key) k (fun e => hk (by rw [e]))⟩
            · injection hj with hj
              rcases HOB.out with h | h
              · exact .inr (by rw [← hj]; exact h.symm)
              · exact .inl (by omega)
      · obtain rfl : p = n := by omega
        have hnI : ¬ (p : Int) < (p : Int) := by omega
        clear hfound hAr hfound'
        obtain ⟨w1, HW1, B1, x1⟩ := al1 wr (.cells #[.string ⟨#[]⟩] 9)
        have own1 := own_below' HO.out B1
        have src1 : Src 1 w1 (.slice (some ⟨wr.heap.size, 0, none⟩) 1 1) 1 [.string ⟨#[]⟩] := Src.of_own (own_of_block (n := 1) (cap := 1) (s := 1) (xs := [.string ⟨#[]⟩]) (base := 0) x1 (by omega) rfl (by omega) (by unfold maxLen; omega))
        clear x1
        go_wp2_with (first | (at_builtin; rw [← HW1.out]; refine wpList_appy rfl _ _ _ rfl Try.underlying153 infoStringS rfl (by omega) base own1 (Nat.le_trans HB.out B1.size) rfl src1 rfl (by simp [Value.oneCell']) (by unfold maxLen; omega) (by omega) ?_; intro v2 w2 own2 hg2 hl2; clear src1 own1) | fail)
        obtain ⟨hlen2, hn2⟩ := own2
        rcases hn2 with ⟨_, h0⟩ | ⟨g, cap, cur, rfl, hbg, hgg, hncap, hcapm, hcur, htk⟩
        · omega
        obtain ⟨cl, rfl⟩ : ∃ cl : List Value, cur = cl.toArray := ⟨cur.toList, by simp⟩
        have hcl : cl.length = cap := by simpa using hcur
        have HTK : Hid (cl.take (p + 1) = ks.map Value.string ++ [.string ⟨#[]⟩]) := by unfold Hid; simpa using htk
        obtain ⟨t1, ho1, hs1⟩ := run_slice_tailR (P := Try.prog) 153 9 Try.underlying153 infoStringS g 0 (p + 1) cap (p + 1) ((p : Int) + 1) (by omega) (by omega) hncap
        obtain ⟨t2, ho2, hs2⟩ := run_slice_tailR (P := Try.prog) 153 9 Try.underlying153 infoStringS g 0 (p + 1) cap p (p : Int) rfl (by omega) hncap
        obtain ⟨l1, HL1⟩ : ∃ l, Hid (p + 1 - (p + 1) = l) := ⟨_, rfl⟩
        obtain ⟨l2, HL2⟩ : ∃ l, Hid (p + 1 - p = l) := ⟨_, rfl⟩
        obtain ⟨q1, HQ1⟩ : ∃ l, Hid (cap - (p + 1) = l) := ⟨_, rfl⟩
        obtain ⟨q2, HQ2⟩ : ∃ l, Hid (cap - p = l) := ⟨_, rfl⟩
        rw [HL1.out] at hs1 ho1; rw [HL2.out] at hs2 ho2; rw [HQ1.out] at hs1; rw [HQ2.out] at hs2
        obtain ⟨CS, HCS⟩ : ∃ CS : List Value, Hid (CS = (ks.drop p).map Value.string) := ⟨_, rfl⟩
        have HCL : Hid (CS.length = p - p) := by unfold Hid; rw [HCS.out, List.length_map, List.length_drop, HL.out]
        have HMIN : Hid (CS.length = Nat.min l2 l1) := by unfold Hid; have h1 := HL1.out; have h2 := HL2.out; have h3 := HPN.out; rw [HCL.out]; refine Eq.trans ?_ (Nat.min_eq_right (show l1 ≤ l2 by omega)).symm; omega
        have HFIT : Hid (p + 1 + CS.length ≤ cl.length) := by unfold Hid; rw [HCL.out, hcl]; have := HPN.out; omega
        have HONE : Hid (∀ v ∈ CS, v.oneCell' = true) := by
          unfold Hid; rw [HCS.out]; intro v hv
          obtain ⟨x, _, rfl⟩ := List.mem_map.1 hv
          rfl
        have HPOS : Hid (0 < CS.length → (some ⟨g, t1, none⟩ : Option Addr) = some ⟨g, p + 1, none⟩ ∧ ∃ ad : Addr, (some ⟨g, t2, none⟩ : Option Addr) = some ad ∧ ∀ j v, CS[j]? = some v → w2.cell? (ad.add j) = some v) := by
          intro hpos
          rw [HCL.out] at hpos
          have h1 := HL1.out; have h2 := HL2.out
          refine ⟨by rw [show t1 = p + 1 by omega], ⟨g, t2, none⟩, rfl, fun j v hj => ?_⟩
          rw [addr_add, cell_of_heap hgg, show t2 + j = p + j by omega]
          have hjl := (List.getElem?_eq_some_iff.1 hj).1
          rw [HCL.out] at hjl
          have h1 : (cl.take (p + 1))[p + j]? = some v := by
            rw [HTK.out, List.getElem?_append_left (by rw [List.length_map, HL.out]; omega)]
            rw [HCS.out, List.getElem?_map, List.getElem?_drop] at hj
            rw [List.getElem?_map]; exact hj
          rw [List.getElem?_take] at h1
          split at h1
          · simpa using h1
          · cases h1
        have HGG := Lib.hid hgg
        have hp0 : (0 : Int) ≤ (p : Int) := by omega
        have hwp : IntKind.i64.wrap ((p : Int) + 1) = (p : Int) + 1 := IntWalk.i64_in _ (by omega)
        have HG2 : Hid (wr.grownBy w2 (Value.slice A p c).ownBlock) := by
          unfold Hid
          refine World.grownBy.trans ?_ hg2
          rw [HW1.out]; exact World.grownBy_alloc _ _ _
        have HOB : Hid ((some g = (Value.slice A p c).ownBlock) ∨ wr.heap.size ≤ g) := by
          rcases hl2 with h | h
          · exact .inl h
          · right
            have h2 : g = w1.heap.size := by injection h
            rw [h2]; exact B1.size
        clear hgg htk hlen2 ho1 ho2 hcur hg2 hl2 HW1 B1
        go_region_held3 (fun _ => True) (trivial) ((refine step_copy_far (by rfl) _ _ _ _ (by rfl) 9 Try.underlying153 HI.out (some ⟨g, t1, none⟩) (some ⟨g, t2, none⟩) l1 q1 l2 q2 (by rfl) (by rfl) g (p + 1) cl 9 (by exact HGG.out) CS HMIN.out (by exact HPOS.out) HFIT.out HONE.out ?_; intro w4 HG4 HGR4))
        all_goals
          have hfz : w4.frozen? ⟨g, p, none⟩ = false := frozen_of_heap HG4.out
          have hsl := splice_len cl CS (p + 1) HFIT.out
          obtain ⟨x0, hx0⟩ : ∃ x, (splice cl (p + 1) CS)[p]? = some x := ⟨_, List.getElem?_eq_getElem (by rw [hsl]; omega)⟩
          have hcl4 : w4.cell? ⟨g, p, none⟩ = some x0 := by rw [cell_of_heap HG4.out]; simpa using hx0
          have hpI2 : (p : Int) < (p : Int) + 1 := by omega
          have HSL := Lib.hid hsl
          clear hx0 hsl hs1 hs2
          go_wp2_with fail
          go_ret2
          refine ⟨_, putAt ks p key, true, rfl, by simp [HK.out], ?_, putAt_rising HR.out HP.out HK.out, fun x => putAt_mem, Nat.le_of_eq (by rw [putAt_len, HL.out]), ?_⟩
          · have hh := heap_set HG4.out (i := p) (.string key)
            rw [arr_set] at hh
            have hf := own_of_block (n := p + 1) (cap := cap) (s := 1) hh hbg (by rw [List.length_set, HSL.out, hcl, Nat.mul_one]) hncap hcapm
            rw [Nat.mul_one, splice_put cl CS p p HCL.out HPN.out (by omega)] at hf
            have e1 : cl.take p = (ks.take p).map Value.string := by
              have h2 := congrArg (List.take p) HTK.out
              rw [List.take_take, show min p (p + 1) = p by have := HPN.out; omega, List.take_append_of_le_length (by rw [List.length_map, HL.out]; exact HPN.out), ← List.map_take] at h2
              exact h2
            have e2 : (putAt ks p key).map Value.string = cl.take p ++ .string key :: CS := by
              rw [e1, HCS.out]; unfold putAt; rw [List.map_append, List.map_cons]
            rw [e2, putAt_len, HL.out]
            exact hf
          · refine World.grownBy.andThen (b' := w2) HG2.out (row' := some g) ?_ (fun j hj => ?_)
            · refine World.grownBy.trans (b := w4) ⟨HGR4.out.os, HGR4.out.tape, HGR4.out.output, HGR4.out.size, HGR4.out.block⟩ ?_
              exact ⟨rfl, rfl, rfl, by simp [World.setCell], fun k _ hk => Below.heap_setCell w4 ⟨g, p, none⟩ (.string key) k (fun e => hk (by rw [e]))⟩
            · injection hj with hj
              rcases HOB.out with h | h
              · exact .inr (by rw [← hj]; exact h.symm)
              · exact .inl (by omega)
end Go.Proofs.Ytjakgeblmkdbpaa
