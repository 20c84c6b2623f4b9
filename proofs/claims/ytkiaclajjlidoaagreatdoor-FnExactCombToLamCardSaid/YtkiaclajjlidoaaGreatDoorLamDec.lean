/- Numbers of one digit at this seat, read and written by the library's functions; digits and ReadDecimal of the program. -/
import Derived.Test.YtkiaclajjlidoaaGreatDoorLamLay
import Derived.Test.YtkiaclajjlidoaaGreatDoorLamTx
import Derived.Test.YtkiaclajjlidoaaGreatDoorSGrid
import Derived.Test.YtkiaclajjlidoaaGreatDoorCopy
import Derived.Test.YtkiaclajjlidoaaGreatDoorBuilder
import Derived.Lib.SmallJoins
namespace Go.Proofs.YtkiaclajjlidoaaGreatDoor
open Go.RowKit
set_option linter.all false

theorem trimLeft_any (s : ByteArray) (w : World) :
    Calls Tryz.prog 85 #[.string s, .string ⟨#[48, 49, 50, 51, 52, 53, 54, 55, 56, 57]⟩] w fun e w' => e = .returned (.string ⟨(Lib.trimLeftS s.data.toList [48, 49, 50, 51, 52, 53, 54, 55, 56, 57]).toArray⟩) ∧ Below w.heap.size w w' :=
  Any.strings_TrimLeft_laid Tryz.layTrimLeft (by kernel_rfl) s ⟨#[48, 49, 50, 51, 52, 53, 54, 55, 56, 57]⟩ w (by decide) (ascii_of_all (by decide))
theorem cut_contains (b : UInt8) : ([48, 49, 50, 51, 52, 53, 54, 55, 56, 57] : List UInt8).contains b = digB b := by
  rw [Bool.eq_iff_iff]
  simp only [List.contains_cons, List.contains_nil, Bool.or_false, Bool.or_eq_true, beq_iff_eq, digB, Bool.and_eq_true, decide_eq_true_eq, ← UInt8.toNat_inj]
  simp
  omega
theorem dig_is {d : Nat} (h : d < 10) : digB (UInt8.ofNat (48 + d)) = true := by
  unfold digB
  rw [dig_toNat h]
  simp; omega
/-- A text that begins with just one digit. -/
theorem trim_one {d : Nat} (h : d < 10) {r : List UInt8} (hr : digB (r.headD 0) = false) : Lib.trimLeftS (UInt8.ofNat (48 + d) :: r) [48, 49, 50, 51, 52, 53, 54, 55, 56, 57] = r := by
  unfold Lib.trimLeftS
  rw [List.dropWhile_cons, if_pos (by rw [cut_contains]; exact dig_is h)]
  cases r with
  | nil => rfl
  | cons c r => rw [List.dropWhile_cons, if_neg]; rw [cut_contains]; simpa using hr
theorem formatSmallB (i : Nat) (hi : i < 100) (w : World) :
    Calls Tryz.prog 105 #[.int .i64 i, .int .i64 10] w fun e w' => e = .returned (.string ⟨(Lib.decDigits i).toArray⟩) ∧ w' = w := Any.strconv_FormatInt_10_small Tryz.layFormatB i hi w
theorem decimalDig (d : Nat) (hd : d < 10) (w : World) :
    Calls Tryz.prog 87 #[.int .i64 d] w fun e w' => e = .returned (.string ⟨[UInt8.ofNat (48 + d)].toArray⟩) ∧ w = w' := by
  have HD := Lib.hid (Lib.decDigits_one hd)
  go_enter Tryz.func87, Tryz.ntmps87
  go_wp2_with (go_at_call 105; refine (formatSmallB d (by omega) _).mono ?_; rintro e w' ⟨rfl, rfl⟩)
  go_ret
  exact ⟨by first | rfl | (rw [HD.out]; rfl), rfl⟩
theorem parse_dig : ∀ d : Fin 10, Lib.parseIntB 64 [UInt8.ofNat (48 + d.val)] = .ok (d.val : Int) := by decide
theorem trimP_dig : ∀ d : Fin 10, Lib.trimPrefix [UInt8.ofNat (48 + d.val)] [45] = [UInt8.ofNat (48 + d.val)] := by decide
theorem parseDig (s : ByteArray) (d : Nat) (hd : d < 10) (hs : s.data.toList = [UInt8.ofNat (48 + d)]) (w : World) :
    Calls Tryz.prog 86 #[.string s, .int .i64 10, .int .i64 64] w fun e w' => e = .returned (.tuple #[.int .i64 d, .nilIface]) ∧ Below w.heap.size w w' := by
  have hsz : s.size = 1 := by have := congrArg List.length hs; simpa using this
  refine (Any.strconv_ParseInt_10_at64_ok Tryz.layParseInt s (by omega) (d : Int) (by rw [hs]; exact parse_dig ⟨d, hd⟩) w).mono ?_
  rintro e w' ⟨rfl, h⟩
  refine ⟨rfl, ?_⟩
  rcases h with rfl | ⟨t, rfl⟩
  · exact Below.refl _ _
  · exact Go.Joins.below_bytesWorld _ _ _ _ (Nat.le_refl _)
theorem trimPrefixAny (s p : ByteArray) (w : World) :
    Calls Tryz.prog 88 #[.string s, .string p] w fun e w' => e = .returned (.string ⟨(Lib.trimPrefix s.data.toList p.data.toList).toArray⟩) ∧ w = w' :=
  (Any.strings_TrimPrefix Tryz.layTrimPrefix s p w).mono fun _ _ h => ⟨h.1, h.2.symm⟩
set_option maxRecDepth 100000 in
theorem writeStringAny (B b : Nat) (bs : List Value) (s : ByteArray) (w : World) (h : Lib.IsBuilder 115 5 B b bs w) (hlen : bs.length + s.size ≤ 8388608) (hBw : B ≤ w.heap.size) :
    Calls Tryz.prog 107 #[.pointer (some ⟨b, 0, none⟩), .string s] w fun e w' => e = .returned (.tuple #[.int .i64 s.size, .nilIface]) ∧ Lib.IsBuilder 115 5 B b (bs ++ Lib.strCells s) w' ∧ Below B w w' := by
  obtain ⟨i0, hi, hz0, hz1, hz2⟩ := info_parts infoU8
  go_enter Tryz.func107, Tryz.ntmps107
  go_wp2_with fail
  refine (copyCheck_any B b bs w h).mono ?_
  rintro e w1 ⟨rfl, ⟨hB, v, hb, hown, hne⟩, hBl, hK⟩
  have hc1 : w1.cell? ⟨b, 1, none⟩ = some v := by rw [cell_of_heap hb]; rfl
  have HB := Lib.hid hb
  have hsz := hBl.size
  clear hb h
  go_wp2_with (at_builtin; refine Lib.wpList_append_own_string _ rfl _ _ 113 9 rfl B 5 i0 Tryz.underlying113 Tryz.underlying9 hi hz0 hz1 hz2 _ _ _ rfl hown s rfl (by unfold maxLen; omega) (by omega) (by omega) ?_; intro v2 w2 hown2 hg2 hx2; obtain ⟨hc2, hf2, HB2⟩ := bld_keep hg2 HB.out hne; obtain ⟨A2, c2, rfl⟩ := own_form hown2)
  go_ret2
  refine ⟨rfl, .inr (Lib.BuilderAt.put hB HB2.out (by simpa [Lib.strCells_length] using hown2) (by decide)), ?_⟩
  exact (hBl.trans ((Below.refl B w1).grown hg2 (by omega) fun k hk => (hown.lt k hk).1)).setCell hB _
theorem writeByteAny (B b : Nat) (bs : List Value) (c : Int) (w : World) (h : Lib.IsBuilder 115 5 B b bs w) (hlen : bs.length + 1 ≤ 8388608) (hBw : B ≤ w.heap.size) :
    Calls Tryz.prog 108 #[.pointer (some ⟨b, 0, none⟩), .int .u8 c] w fun e w' => e = .returned .nilIface ∧ Lib.IsBuilder 115 5 B b (bs ++ [.int .u8 c]) w' ∧ Below B w w' :=
  (writeByte_any B b bs c w h hlen hBw).mono fun _ _ h => ⟨h.1, h.2.1, h.2.2.1⟩
theorem builderString (B b : Nat) (l : List UInt8) (w : World) (h : Lib.IsBuilder 115 5 B b (Lib.byteCells l) w) (hBw : B ≤ w.heap.size) :
    Calls Tryz.prog 90 #[.pointer (some ⟨b, 0, none⟩)] w fun e w' => e = .returned (.string ⟨l.toArray⟩) ∧ Below B w w' := Tryz.Builder_String_any B b l w h hBw
theorem strCells_list (l : List UInt8) : Lib.strCells ⟨l.toArray⟩ = Lib.byteCells l := by simp [Lib.strCells, Lib.byteCells]
theorem byteCellsL_app (a b : List UInt8) : Lib.byteCells (a ++ b) = Lib.byteCells a ++ Lib.byteCells b := by simp [Lib.byteCells]
theorem byteCellsL_len (a : List UInt8) : (Lib.byteCells a).length = a.length := by simp [Lib.byteCells]

/-- A text that begins with just one digit: how many digits. -/
theorem digitsOne (s : ByteArray) (d : Nat) (r : List UInt8) (hs : s.data.toList = UInt8.ofNat (48 + d) :: r) (hd : d < 10) (hr : digB (r.headD 0) = false) (hl : r.length ≤ 100000) (w : World) :
    Calls Tryz.prog 67 #[.string s] w fun e w' => e = .returned (.int .i64 1) ∧ Below w.heap.size w w' := by
  have hsz : s.size = r.length + 1 := by have := congrArg List.length hs; simpa using this
  have hT : Hid (∀ W, Calls Tryz.prog 85 #[.string s, .string ⟨#[48, 49, 50, 51, 52, 53, 54, 55, 56, 57]⟩] W fun e w' => e = .returned (.string ⟨r.toArray⟩) ∧ Below W.heap.size W w') := by
    intro W
    have := trimLeft_any s W
    rw [hs, trim_one hd hr] at this
    exact this
  have hq : (⟨r.toArray⟩ : ByteArray).size = r.length := by simp [ByteArray.size]
  have hw1 : IntKind.i64.wrap ((s.size : Int) - (r.length : Int)) = 1 := by rw [hsz]; rw [IntWalk.i64_in _ (by omega)]; omega
  clear hs hd hr
  go_enter Tryz.func67, Tryz.ntmps67
  go_wp2_with (go_at_call 85; refine (hT.out _).mono ?_; rintro e w1 ⟨rfl, hb⟩)
  go_ret
  exact ⟨ret_int (by omega), hb⟩
theorem readDecimalDig (s : ByteArray) (d : Nat) (hd : d < 10) (hs : s.data.toList = [UInt8.ofNat (48 + d)]) (w : World) :
    Calls Tryz.prog 68 #[.string s] w fun e w' => e = .returned (.tuple #[.int .i64 d, .bool true]) ∧ Below w.heap.size w w' := by
  have HP := Lib.hid (parseDig s d hd hs)
  have hsz : s.size = 1 := by have := congrArg List.length hs; simpa using this
  have he : s = ⟨[UInt8.ofNat (48 + d)].toArray⟩ := by rw [← hs]
  have HDC : Hid (∀ W, Calls Tryz.prog 87 #[.int .i64 d] W fun e w' => e = .returned (.string s) ∧ W = w') := by
    intro W; rw [he]; exact decimalDig d hd W
  have HTP : Hid (∀ W, Calls Tryz.prog 88 #[.string s, .string ⟨#[45]⟩] W fun e w' => e = .returned (.string s) ∧ W = w') := by
    intro W
    have := trimPrefixAny s ⟨#[45]⟩ W
    rw [hs] at this
    have e := trimP_dig ⟨d, hd⟩
    simp only at e
    rw [e, ← he] at this
    exact this
  clear hd hs he
  go_enter Tryz.func68, Tryz.ntmps68
  go_wp2_with fail
  refine (HP.out _).mono ?_
  rintro e w1 ⟨rfl, hb⟩
  go_wp2_with fail
  refine (HDC.out _).mono ?_
  rintro e w2 ⟨rfl, rfl⟩
  go_wp2_with fail
  refine (HTP.out _).mono ?_
  rintro e w2 ⟨rfl, rfl⟩
  go_wp2_with fail
  go_ret2
  exact ⟨rfl, hb⟩
end Go.Proofs.YtkiaclajjlidoaaGreatDoor
