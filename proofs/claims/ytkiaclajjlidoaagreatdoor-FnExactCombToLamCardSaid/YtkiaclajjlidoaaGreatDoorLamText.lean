/- The text of a lambda term, by the program: lamText and LamText. -/
import Derived.Test.YtkiaclajjlidoaaGreatDoorLamDec
import Derived.Test.YtkiaclajjlidoaaGreatDoorLams
namespace Go.Proofs.YtkiaclajjlidoaaGreatDoor
open Go.RowKit
set_option linter.all false

set_option maxRecDepth 100000 in
set_option maxHeartbeats 2000000 in
theorem lamText_any (w0 : World) (b : Nat) (A : Option Addr) (n c : Nat) (xs : List R2) (ha : Args 2 w0 A n (rows R2.vs xs)) (hn : n ≤ 1000) (T : LTm) : ∀ (k : Nat) (kk : Int) (w : World) (bs : List UInt8) (rest : List R2), kk = (k : Int) →
    xs.drop k = T.flat ++ rest → T.small = true → Lib.IsBuilder 115 5 w0.heap.size b (Lib.byteCells bs) w → Below w0.heap.size w0 w → bs.length + T.text.length ≤ 100000 →
    Calls Tryz.prog 89 #[.pointer (some ⟨b, 0, none⟩), .slice A n c, .int .i64 kk] w fun e w' => e = .returned (.int .i64 ((k + T.flat.length : Nat) : Int)) ∧
      Lib.IsBuilder 115 5 w0.heap.size b (Lib.byteCells (bs ++ T.text)) w' ∧ Below w0.heap.size w0 w' := by
  have HL : Hid (xs.length = n) := by have := ha.1; rw [rows_len R2.vs_len] at this; unfold Hid; omega
  have HA := Lib.hid ha
  clear ha
  induction T with
  | v d =>
    rintro k _ w bs rest rfl hx hsm hI hB hlen
    have hd : d < 10 := by simpa [LTm.small] using hsm
    have hk : k < n := by have := congrArg List.length hx; rw [List.length_drop, HL.out] at this; simp [LTm.flat] at this; omega
    have hxk : xs[k]? = some ⟨0, d⟩ := by
      have := congrArg (·[0]?) hx
      simpa [LTm.flat, List.getElem?_drop] using this
    obtain ⟨bb, off, rfl, hs⟩ := HA.out.sl hk
    obtain ⟨h0, h1⟩ := (hs.below' hB).rec2 hxk
    have HDC := Lib.hid (decimalDig d hd)
    have hw1 : IntKind.i64.wrap ((k : Int) + 1) = (k : Int) + 1 := IntWalk.i64_in _ (by omega)
    have HLN := Lib.hid hlen
    clear hs hd hsm hxk hx hlen
    go_enter Tryz.func89, Tryz.ntmps89
    go_wp2_with fail
    refine (HDC.out _).mono ?_
    rintro e w1 ⟨rfl, rfl⟩
    go_wp2_with fail
    refine (writeStringAny w0.heap.size b _ _ w hI (by have := HLN.out; rw [byteCellsL_len]; simp [ByteArray.size]; omega) hB.size).mono ?_
    rintro e w1 ⟨rfl, hI1, hB1⟩
    rw [strCells_list, ← byteCellsL_app] at hI1
    have HI1 := Lib.hid hI1
    clear hI hI1 h0 h1
    go_wp2_with fail
    go_ret
    exact ⟨ret_int (by simp [LTm.flat]), by have := HI1.out; simpa [LTm.text] using this, hB.trans hB1⟩
  | ab t ih =>
    rintro k _ w bs rest rfl hx hsm hI hB hlen
    have IH := Lib.hid ih
    have hlx := congrArg List.length hx
    rw [List.length_drop, HL.out] at hlx
    simp only [LTm.flat, List.length_append, List.length_cons] at hlx
    have hk : k < n := by omega
    have hxk : xs[k]? = some ⟨1, 0⟩ := by
      have := congrArg (·[0]?) hx
      simpa [LTm.flat, List.getElem?_drop] using this
    have HX1 : Hid (xs.drop (k + 1) = t.flat ++ rest) := by
      unfold Hid
      rw [← List.drop_drop, hx]; simp [LTm.flat]
    obtain ⟨bb, off, rfl, hs⟩ := HA.out.sl hk
    obtain ⟨h0, h1⟩ := (hs.below' hB).rec2 hxk
    have HS : Hid (t.small = true) := by unfold Hid; simpa [LTm.small] using hsm
    have HLN : Hid (bs.length + 1 + t.text.length ≤ 100000) := by unfold Hid; simp [LTm.text] at hlen; omega
    have hw1 : IntKind.i64.wrap ((k : Int) + 1) = (k : Int) + 1 := IntWalk.i64_in _ (by omega)
    clear ih hs hsm hxk hx hlen hlx
    go_enter Tryz.func89, Tryz.ntmps89
    go_wp2_with fail
    refine (writeByteAny w0.heap.size b _ 94 w hI (by have := HLN.out; rw [byteCellsL_len]; omega) hB.size).mono ?_
    rintro e w1 ⟨rfl, hI1, hB1⟩
    have HI1 : Hid (Lib.IsBuilder 115 5 w0.heap.size b (Lib.byteCells (bs ++ [94])) w1) := by unfold Hid; rw [byteCellsL_app]; exact hI1
    clear hI hI1 h0 h1
    go_wp2_with fail
    refine (IH.out (k + 1) _ w1 (bs ++ [94]) rest (by omega) HX1.out HS.out HI1.out (hB.trans hB1) (by have := HLN.out; simp; omega)).mono ?_
    rintro e w2 ⟨rfl, hI2, hB2⟩
    have HI2 := Lib.hid hI2
    clear hI2
    go_wp2_with fail
    go_ret
    exact ⟨ret_int (by simp [LTm.flat]; omega), by have := HI2.out; simpa [LTm.text] using this, hB2⟩
  | ap s t ih1 ih2 =>
    rintro k _ w bs rest rfl hx hsm hI hB hlen
    have IH1 := Lib.hid ih1
    have IH2 := Lib.hid ih2
    have hlx := congrArg List.length hx
    rw [List.length_drop, HL.out] at hlx
    simp only [LTm.flat, List.length_append, List.length_cons] at hlx
    have hk : k < n := by omega
    have hxk : xs[k]? = some ⟨2, 0⟩ := by
      have := congrArg (·[0]?) hx
      simpa [LTm.flat, List.getElem?_drop] using this
    have HX1 : Hid (xs.drop (k + 1) = s.flat ++ (t.flat ++ rest)) := by
      unfold Hid
      rw [← List.drop_drop, hx]; simp [LTm.flat]
    obtain ⟨ls, hls⟩ : ∃ m, s.flat.length = m := ⟨_, rfl⟩
    have HLS := Lib.hid hls
    have HX2 : Hid (xs.drop (k + 1 + ls) = t.flat ++ rest) := by
      unfold Hid
      rw [← List.drop_drop, HX1.out, ← hls, List.drop_left]
    obtain ⟨bb, off, rfl, hs⟩ := HA.out.sl hk
    obtain ⟨h0, h1⟩ := (hs.below' hB).rec2 hxk
    have HS1 : Hid (s.small = true) := by unfold Hid; simp [LTm.small] at hsm; exact hsm.1
    have HS2 : Hid (t.small = true) := by unfold Hid; simp [LTm.small] at hsm; exact hsm.2
    have HLN : Hid (bs.length + 3 + s.text.length + t.text.length ≤ 100000) := by unfold Hid; simp [LTm.text] at hlen; omega
    have hw1 : IntKind.i64.wrap ((k : Int) + 1) = (k : Int) + 1 := IntWalk.i64_in _ (by omega)
    clear ih1 ih2 hs hsm hxk hx hlen hlx hls
    go_enter Tryz.func89, Tryz.ntmps89
    go_wp2_with fail
    refine (writeByteAny w0.heap.size b _ 40 w hI (by have := HLN.out; rw [byteCellsL_len]; omega) hB.size).mono ?_
    rintro e w1 ⟨rfl, hI1, hB1⟩
    have HI1 : Hid (Lib.IsBuilder 115 5 w0.heap.size b (Lib.byteCells (bs ++ [40])) w1) := by unfold Hid; rw [byteCellsL_app]; exact hI1
    clear hI hI1 h0 h1
    go_wp2_with fail
    refine (IH1.out (k + 1) _ w1 (bs ++ [40]) (t.flat ++ rest) (by omega) HX1.out HS1.out HI1.out (hB.trans hB1) (by have := HLN.out; simp; omega)).mono ?_
    rintro e w2 ⟨rfl, hI2, hB2⟩
    rw [HLS.out]
    have HI2 := Lib.hid hI2
    clear hI2
    go_wp2_with fail
    refine (writeByteAny w0.heap.size b _ 32 w2 HI2.out (by have := HLN.out; rw [byteCellsL_len]; simp; omega) hB2.size).mono ?_
    rintro e w3 ⟨rfl, hI3, hB3⟩
    have HI3 : Hid (Lib.IsBuilder 115 5 w0.heap.size b (Lib.byteCells (bs ++ [40] ++ s.text ++ [32])) w3) := by unfold Hid; rw [byteCellsL_app]; exact hI3
    clear hI3
    go_wp2_with fail
    refine (IH2.out (k + 1 + ls) _ w3 (bs ++ [40] ++ s.text ++ [32]) rest rfl HX2.out HS2.out HI3.out (hB2.trans hB3) (by have := HLN.out; simp; omega)).mono ?_
    rintro e w4 ⟨rfl, hI4, hB4⟩
    have HI4 := Lib.hid hI4
    clear hI4
    go_wp2_with fail
    refine (writeByteAny w0.heap.size b _ 41 w4 HI4.out (by have := HLN.out; rw [byteCellsL_len]; simp; omega) hB4.size).mono ?_
    rintro e w5 ⟨rfl, hI5, hB5⟩
    have HI5 : Hid (Lib.IsBuilder 115 5 w0.heap.size b (Lib.byteCells (bs ++ [40] ++ s.text ++ [32] ++ t.text ++ [41])) w5) := by unfold Hid; rw [byteCellsL_app]; exact hI5
    clear hI5
    go_wp2_with fail
    go_ret
    exact ⟨ret_int (by have := HLS.out; simp [LTm.flat]; omega), by have := HI5.out; simpa [LTm.text] using this, hB4.trans hB5⟩

set_option maxRecDepth 100000 in
/-- LamText of a valid term. -/
theorem lamTextOf_any (T : LTm) (A : Option Addr) (n c : Nat) (w : World) (ha : Args 2 w A n (rows R2.vs T.flat)) (hn : n ≤ 400) (hs : T.small = true) (hv : validT T.flat = true) :
    Calls Tryz.prog 69 #[.slice A n c] w fun e w' => e = .returned (.string ⟨T.text.toArray⟩) ∧ Below w.heap.size w w' := by
  have HV := Lib.hid (validLam_is A n c T.flat true hv w ha (by omega))
  have HA := Lib.hid ha
  have HS := Lib.hid hs
  have HL : Hid (T.flat.length = n) := by have := ha.1; rw [rows_len R2.vs_len] at this; unfold Hid; omega
  have HTL : Hid (T.text.length ≤ 1600) := by have := T.text_len; have := HL.out; unfold Hid; omega
  clear ha hs hv
  go_enter Tryz.func69, Tryz.ntmps69
  go_wp2_with fail
  refine HV.out.mono ?_
  rintro e w1 ⟨rfl, hb1⟩
  have HA1 := Lib.hid (HA.out.below hb1)
  obtain ⟨w2, HW2, b2, x2⟩ := al1 w1 (.cells #[.pointer none, .slice none 0 0] 115)
  have HI2 : Hid (Lib.IsBuilder 115 5 w1.heap.size w1.heap.size (Lib.byteCells []) w2) := by
    refine .inl ⟨Nat.le_refl _, .slice none 0 0, x2, World.ownsRow_nil _ _ _ _, by simp [Value.ownBlock]⟩
  have HB2 := Lib.hid b2
  clear x2 b2
  go_wp2_with fail
  rw [← HW2.out]
  refine (lamText_any w1 w1.heap.size A n c T.flat HA1.out (by omega) T 0 _ w2 [] [] rfl (by simp) HS.out HI2.out HB2.out (by have := HTL.out; simp; omega)).mono ?_
  rintro e w3 ⟨rfl, hI3, hB3⟩
  have HI3 := Lib.hid hI3
  clear hI3
  go_wp2_with fail
  refine (builderString w1.heap.size w1.heap.size T.text w3 (by simpa using HI3.out) hB3.size).mono ?_
  rintro e w4 ⟨rfl, hB4⟩
  go_wp2_with fail
  go_ret
  exact ⟨rfl, below_step hb1 (hB3.trans hB4)⟩
end Go.Proofs.YtkiaclajjlidoaaGreatDoor
