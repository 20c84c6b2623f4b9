/- The law FnExactReadLoop returns true for every input, and each argument reads afterwards as before: the proof, part 4. No conditions. -/
import Derived.Test.YtgcedfpjgdeakaaDoorReadLoopZc
import Derived.Test.YtgcedfpjgdeakaaDoorLamLay
import Derived.Lib.SmallJoins
import Derived.Deep.RegionHeld3
/- Numbers of one digit at this seat, read and written by the library's functions; digits and ReadDecimal of the program. -/
namespace Go.Proofs.YtgcedfpjgdeakaaDoor
open Go.RowKit
set_option linter.all false

theorem trimLeft_any (s : ByteArray) (w : World) :
    Calls Tryd.prog 96 #[.string s, .string ⟨#[48, 49, 50, 51, 52, 53, 54, 55, 56, 57]⟩] w fun e w' => e = .returned (.string ⟨(Lib.trimLeftS s.data.toList [48, 49, 50, 51, 52, 53, 54, 55, 56, 57]).toArray⟩) ∧ Below w.heap.size w w' :=
  Any.strings_TrimLeft_laid Tryd.layTrimLeft (by kernel_rfl) s ⟨#[48, 49, 50, 51, 52, 53, 54, 55, 56, 57]⟩ w (by decide) (ascii_of_all (by decide))

theorem cut_contains (b : UInt8) : ([48, 49, 50, 51, 52, 53, 54, 55, 56, 57] : List UInt8).contains b = digB b := by
  rw [Bool.eq_iff_iff]
  simp only [List.contains_cons, List.contains_nil, Bool.or_false, Bool.or_eq_true, beq_iff_eq, digB, Bool.and_eq_true, decide_eq_true_eq, ← UInt8.toNat_inj]
  simp
  omega

theorem dig_is {d : Nat} (h : d < 10) : digB (UInt8.ofNat (48 + d)) = true := by
  unfold digB
  rw [dig_toNat h]
  simp; omega
/-- A text that begins with just one digit. -/
theorem trim_one {d : Nat} (h : d < 10) {r : List UInt8} (hr : digB (r.headD 0) = false) : Lib.trimLeftS (UInt8.ofNat (48 + d) :: r) [48, 49, 50, 51, 52, 53, 54, 55, 56, 57] = r := by
  unfold Lib.trimLeftS
  rw [List.dropWhile_cons, if_pos (by rw [cut_contains]; exact dig_is h)]
  cases r with
  | nil => rfl
  | cons c r => rw [List.dropWhile_cons, if_neg]; rw [cut_contains]; simpa using hr

theorem formatSmallB (i : Nat) (hi : i < 100) (w : World) :
    Calls Tryd.prog 77 #[.int .i64 i, .int .i64 10] w fun e w' => e = .returned (.string ⟨(Lib.decDigits i).toArray⟩) ∧ w' = w := Any.strconv_FormatInt_10_small Tryd.layFormatB i hi w

theorem decimalDig (d : Nat) (hd : d < 10) (w : World) :
    Calls Tryd.prog 42 #[.int .i64 d] w fun e w' => e = .returned (.string ⟨[UInt8.ofNat (48 + d)].toArray⟩) ∧ w = w' := by
  have HD := Lib.hid (Lib.decDigits_one hd)
  go_enter Tryd.func42, Tryd.ntmps42
  go_wp2_with (go_at_call 77; refine (formatSmallB d (by omega) _).mono ?_; rintro e w' ⟨rfl, rfl⟩)
  go_ret
  exact ⟨by first | rfl | (rw [HD.out]; rfl), rfl⟩

theorem parse_dig : ∀ d : Fin 10, Lib.parseIntB 64 [UInt8.ofNat (48 + d.val)] = .ok (d.val : Int) := by decide

theorem trimP_dig : ∀ d : Fin 10, Lib.trimPrefix [UInt8.ofNat (48 + d.val)] [45] = [UInt8.ofNat (48 + d.val)] := by decide

theorem parseDig (s : ByteArray) (d : Nat) (hd : d < 10) (hs : s.data.toList = [UInt8.ofNat (48 + d)]) (w : World) :
    Calls Tryd.prog 71 #[.string s, .int .i64 10, .int .i64 64] w fun e w' => e = .returned (.tuple #[.int .i64 d, .nilIface]) ∧ Below w.heap.size w w' := by
  have hsz : s.size = 1 := by have := congrArg List.length hs; simpa using this
  refine (Any.strconv_ParseInt_10_at64_ok Tryd.layParseInt s (by omega) (d : Int) (by rw [hs]; exact parse_dig ⟨d, hd⟩) w).mono ?_
  rintro e w' ⟨rfl, h⟩
  refine ⟨rfl, ?_⟩
  rcases h with rfl | ⟨t, rfl⟩
  · exact Below.refl _ _
  · exact Go.Joins.below_bytesWorld _ _ _ _ (Nat.le_refl _)

theorem trimPrefixAny (s p : ByteArray) (w : World) :
    Calls Tryd.prog 74 #[.string s, .string p] w fun e w' => e = .returned (.string ⟨(Lib.trimPrefix s.data.toList p.data.toList).toArray⟩) ∧ w = w' :=
  (Any.strings_TrimPrefix Tryd.layTrimPrefix s p w).mono fun _ _ h => ⟨h.1, h.2.symm⟩

theorem strCells_list (l : List UInt8) : Lib.strCells ⟨l.toArray⟩ = Lib.byteCells l := by simp [Lib.strCells, Lib.byteCells]
theorem byteCellsL_app (a b : List UInt8) : Lib.byteCells (a ++ b) = Lib.byteCells a ++ Lib.byteCells b := by simp [Lib.byteCells]
theorem byteCellsL_len (a : List UInt8) : (Lib.byteCells a).length = a.length := by simp [Lib.byteCells]
end Go.Proofs.YtgcedfpjgdeakaaDoor

/- Numbers at the head of a text, by the program: digits, numberAt; strings.CutPrefix and strings.TrimPrefix at this seat. -/
namespace Go.Proofs.YtgcedfpjgdeakaaDoor
open Go.RowKit
set_option linter.all false

/-- strconv.ErrSyntax holds something. -/
def ErrAt (w : World) : Prop := ∃ ev, w.cell? ⟨Tryd.layParseInt_ren.g 15, 0, none⟩ = some ev ∧ (ev = .nilIface ∨ ∃ te pe, ev = .iface te pe)
theorem ErrAt.below {w w' : World} (h : ErrAt w) (hb : Below w.heap.size w w') : ErrAt w' := by
  obtain ⟨ev, h1, h2⟩ := h
  exact ⟨ev, cell_step h1 hb, h2⟩
theorem dgs_trim (l : List UInt8) : Lib.trimLeftS l [48, 49, 50, 51, 52, 53, 54, 55, 56, 57] = l.drop (dgs l) := by
  unfold Lib.trimLeftS dgs
  rw [show (fun b => ([48, 49, 50, 51, 52, 53, 54, 55, 56, 57] : List UInt8).contains b) = digB from funext cut_contains]
  induction l with
  | nil => rfl
  | cons b r ih =>
    rw [List.dropWhile_cons, List.takeWhile_cons]
    cases h : digB b with
    | false => simp
    | true => simp only [if_true, List.length_cons, List.drop_succ_cons]; exact ih
theorem digitsAny (s : ByteArray) (l : List UInt8) (hs : s.data.toList = l) (hl : l.length ≤ 1048576) (w : World) :
    Calls Tryd.prog 70 #[.string s] w fun e w' => e = .returned (.int .i64 (dgs l : Nat)) ∧ Below w.heap.size w w' := by
  have hsz : s.size = l.length := by rw [← hs]; simp
  have hT : Hid (∀ W, Calls Tryd.prog 96 #[.string s, .string ⟨#[48, 49, 50, 51, 52, 53, 54, 55, 56, 57]⟩] W fun e w' => e = .returned (.string ⟨(l.drop (dgs l)).toArray⟩) ∧ Below W.heap.size W w') := by
    intro W
    have := trimLeft_any s W
    rw [hs, dgs_trim] at this
    exact this
  have hle := dgs_le l
  obtain ⟨q, hq⟩ : ∃ q, l.drop (dgs l) = q := ⟨_, rfl⟩
  have hql : q.length = l.length - dgs l := by rw [← hq, List.length_drop]
  rw [hq] at hT
  have hw1 : IntKind.i64.wrap ((s.size : Int) - (q.length : Int)) = (dgs l : Int) := by rw [IntWalk.i64_in _ (by omega)]; omega
  obtain ⟨z, hz⟩ : ∃ z, dgs l = z := ⟨_, rfl⟩
  rw [hz] at hw1 ⊢
  clear hs hq hz hle hql hsz
  go_enter Tryd.func70, Tryd.ntmps70
  go_wp2_with (go_at_call 96; refine (hT.out _).mono ?_; rintro e w1 ⟨rfl, hb⟩)
  go_ret
  exact ⟨rfl, hb⟩
theorem cutPrefixAny (s p : ByteArray) (w : World) :
    Calls Tryd.prog 72 #[.string s, .string p] w fun e w' => e = .returned (.tuple #[.string ⟨(Lib.trimPrefix s.data.toList p.data.toList).toArray⟩, .bool (Lib.hasPrefix s.data.toList p.data.toList)]) ∧ w = w' :=
  (Any.strings_CutPrefix Tryd.layCutPrefix s p w).mono fun _ _ h => ⟨h.1, h.2.symm⟩
theorem parseOkB (s : ByteArray) (v : Int) (hsz : s.size ≤ 1048576) (h : Lib.parseIntB 64 s.data.toList = .ok v) (w : World) :
    Calls Tryd.prog 71 #[.string s, .int .i64 10, .int .i64 64] w fun e w' => e = .returned (.tuple #[.int .i64 v, .nilIface]) ∧ Below w.heap.size w w' := by
  refine (Any.strconv_ParseInt_10_at64_ok Tryd.layParseInt s (by omega) v h w).mono ?_
  rintro e w' ⟨rfl, h⟩
  refine ⟨rfl, ?_⟩
  rcases h with rfl | ⟨t, rfl⟩
  · exact Below.refl _ _
  · exact Go.Joins.below_bytesWorld _ _ _ _ (Nat.le_refl _)
theorem parseNo (s : ByteArray) (hs : s.data.toList = []) (w : World) (hE : ErrAt w) :
    Calls Tryd.prog 71 #[.string s, .int .i64 10, .int .i64 64] w fun e w' => (∃ t a, e = .returned (.tuple #[.int .i64 0, .iface t (.pointer (some a))])) ∧ Below w.heap.size w w' := by
  obtain ⟨ev, h1, h2⟩ := hE
  have hsz : s.size = 0 := by have := congrArg List.length hs; simpa using this
  refine (Any.strconv_ParseInt_10_at64_syntax Tryd.layParseInt s (by omega) (by rw [hs]; rfl) ev w h1 h2).mono ?_
  rintro e w' ⟨N, rfl, _, _, hb⟩
  exact ⟨⟨_, _, rfl⟩, hb⟩
theorem ex_take (s : ByteArray) (l : List UInt8) (hs : s.data.toList = l) (k : Nat) : (s.extract 0 k).data.toList = l.take k := by
  have e1 : s = ⟨l.toArray⟩ := by rw [← hs]
  rw [e1, ByteArray.extract_mk]; simp
theorem ex_drop (s : ByteArray) (l : List UInt8) (hs : s.data.toList = l) (k : Nat) : (s.extract k s.size).data.toList = l.drop k := by
  have e1 : s = ⟨l.toArray⟩ := by rw [← hs]
  have hz : s.size = l.length := by rw [← hs]; simp
  rw [hz, e1, ByteArray.extract_mk]
  simp only [List.toList_toArray]
  rw [List.take_of_length_le (by rw [List.length_drop]; omega)]

set_option maxRecDepth 100000 in
set_option maxHeartbeats 1000000 in
theorem numberAt_any (s : ByteArray) (l : List UInt8) (hs : s.data.toList = l) (hl : l.length ≤ 1048576) (w : World) (hE : ErrAt w) :
    Calls Tryd.prog 37 #[.string s] w fun e w' => (∃ S, e = .returned (.tuple #[.int .i64 (numI l).1, .string S]) ∧ S.data.toList = (numI l).2) ∧ Below w.heap.size w w' := by
  have hsz : s.size = l.length := by rw [← hs]; simp
  have HDG := Lib.hid (digitsAny s l hs hl)
  have hle := dgs_le l
  obtain ⟨z, hz⟩ : ∃ z, dgs l = z := ⟨_, rfl⟩
  rw [hz] at HDG hle
  obtain ⟨k, hk⟩ : ∃ k, min z 9 = k := ⟨_, rfl⟩
  have hkz : k ≤ z := by omega
  have hmin : (min (z : Int) 9) = (k : Int) := by omega
  have hkI0 : (0 : Int) ≤ (k : Int) := by omega
  have hkI : (k : Int) ≤ (s.size : Int) := by omega
  obtain ⟨s1, hs1⟩ : ∃ s1, s.extract 0 k = s1 := ⟨_, rfl⟩
  have h1l : s1.data.toList = l.take k := by rw [← hs1]; exact ex_take s l hs k
  obtain ⟨s2, hs2⟩ : ∃ s2, s.extract k s.size = s2 := ⟨_, rfl⟩
  have h2l : s2.data.toList = l.drop k := by rw [← hs2]; exact ex_drop s l hs k
  have hsl1 : ∀ W, (Instr.slice 9 (.string s) none (some (.int .i64 (k : Int))) none).run Tryd.prog W = .ok (.string s1) W := by
    intro W
    rw [run_slice_string_h W _ s Tryd.underlying9 .i64 (k : Int) hkI0 hkI, ← hs1]
    rfl
  have hsl2 : ∀ W, (Instr.slice 9 (.string s) (some (.int .i64 (k : Int))) none none).run Tryd.prog W = .ok (.string s2) W := by
    intro W
    rw [run_slice_string_l W _ s Tryd.underlying9 .i64 (k : Int) hkI0 hkI, ← hs2]
    rfl
  by_cases h0 : z = 0
  · have hn : numI l = (-1, l) := numI_no (by omega)
    have hk0 : k = 0 := by omega
    have HPN := Lib.hid (fun W hW => parseNo s1 (by rw [h1l, hk0]; rfl) W (hE.below hW))
    have HN := Lib.hid hn
    have HS := Lib.hid hs
    clear hn hk hkz hs hs1 hs2 h1l h2l hsz hz hle h0 hk0 hl hE
    go_enter Tryd.func37, Tryd.ntmps37
    go_wp2_with fail
    refine (HDG.out _).mono ?_
    rintro e w1 ⟨rfl, b1⟩
    go_wp2_with fail
    refine (HPN.out _ b1).mono ?_
    rintro e w2 ⟨⟨t, a, rfl⟩, b2⟩
    go_wp2_with fail
    go_ret2
    exact ⟨⟨s, by rw [HN.out]; rfl, by rw [HN.out]; exact HS.out⟩, below_step b1 b2⟩
  · have hn := numI_yes (l := l) (by omega)
    rw [hz, hk] at hn
    have hp := (valD_int (dgs_take l k (by omega)) (by rw [List.length_take]; omega) (by rw [List.length_take]; omega)).1
    rw [← h1l] at hp
    have h1z : s1.size ≤ 1048576 := by have := congrArg List.length h1l; rw [List.length_take] at this; simp at this; omega
    have HPO := Lib.hid (parseOkB s1 _ h1z hp)
    obtain ⟨v, hv⟩ : ∃ v : Int, ((valD 0 (l.take k) : Nat) : Int) = v := ⟨_, rfl⟩
    rw [h1l, hv] at HPO
    rw [hv] at hn
    have HN := Lib.hid hn
    have H2 := Lib.hid h2l
    clear hn hk hkz hs hs1 hs2 h1l h2l hsz hz hle h0 hl hE hp hv h1z
    go_enter Tryd.func37, Tryd.ntmps37
    go_wp2_with fail
    refine (HDG.out _).mono ?_
    rintro e w1 ⟨rfl, b1⟩
    go_wp2_with fail
    refine (HPO.out _).mono ?_
    rintro e w2 ⟨rfl, b2⟩
    go_wp2_with fail
    go_quiet (fail)
    go_wp2_with fail
    go_ret2
    exact ⟨⟨s2, by rw [HN.out]; rfl, by rw [HN.out]; exact H2.out⟩, below_drewN (below_step b1 b2) _⟩
end Go.Proofs.YtgcedfpjgdeakaaDoor

/- Reading the text of a loop program, by the reference: bytes and numbers. -/
namespace Go.Proofs.YtgcedfpjgdeakaaDoor
open Go.RowKit
set_option linter.all false

theorem l11Byte_any (s : ByteArray) (L : List UInt8) (hs : s.data.toList = L) (at' : Nat) (S : List UInt8) (hS : L.drop at' = S) (b : UInt8) (c : Int) (hc : c = (b.toNat : Int)) (hb : b ≠ 0) (hat : at' ≤ 1048576 ∧ L.length ≤ 1048576) (v : Bool) (hv : decide (S.headD 0 = b) = v) (w : World) :
    Calls Tryd.prog 67 #[.string s, .int .i64 at', .int .u8 c] w fun e w' => e = .returned (.bool v) ∧ w = w' := by
  have hsz : s.size = L.length := by rw [← hs]; simp
  cases S with
  | nil =>
    have hle : L.length ≤ at' := by have := congrArg List.length hS; rw [List.length_drop, List.length_nil] at this; omega
    have HV : Hid (false = v) := by
      unfold Hid
      rw [← hv]
      exact (decide_eq_false (fun e => hb (by simpa using e.symm))).symm
    have hlt : ¬ (at' : Int) < (s.size : Int) := by omega
    clear hv hs hS
    go_enter Tryd.func67, Tryd.ntmps67
    go_wp2
    go_ret
    exact ⟨ret_bool HV.out, rfl⟩
  | cons x r =>
    obtain ⟨h1, h2⟩ := str_at hs hS
    have hlt : (at' : Int) < (s.size : Int) := by omega
    have hvv : ((s[at'].toNat : Int) == c) = v := by
      rw [h2, ← hv, hc, Bool.eq_iff_iff, beq_iff_eq, decide_eq_true_eq]
      constructor
      · intro e
        have : x.toNat = b.toNat := by omega
        exact UInt8.toNat_inj.1 this
      · intro e
        rw [show x = b from e]
    have HV := Lib.hid hvv
    clear hv hs hS hvv h2 hc
    go_enter Tryd.func67, Tryd.ntmps67
    go_wp2
    go_ret
    exact ⟨ret_bool HV.out, rfl⟩

theorem l01Number_empty (s : ByteArray) (hs : s.data.toList = []) (w : World) :
    Calls Tryd.prog 93 #[.string s] w fun e w' => e = .returned (.tuple #[.int .i64 0, .bool false]) ∧ w = w' := by
  have hsz : s.size = 0 := by have := congrArg List.length hs; simpa using this
  have hsI : (s.size : Int) = 0 := by omega
  clear hs
  go_enter Tryd.func93, Tryd.ntmps93
  go_wp2_with fail
  go_ret2
  exact ⟨rfl, rfl⟩
theorem l01Number_zero (s : ByteArray) (b : UInt8) (hs : s.data.toList = [48, b]) (w : World) :
    Calls Tryd.prog 93 #[.string s] w fun e w' => e = .returned (.tuple #[.int .i64 0, .bool false]) ∧ w = w' := by
  have hsz : s.size = 2 := by have := congrArg List.length hs; simpa using this
  have hsI : (s.size : Int) = 2 := by omega
  obtain ⟨h0, hk0⟩ := str_at hs (k := 0) rfl
  have hb1 : ((s[0].toNat : Int) == 45) = false := by rw [hk0]; rfl
  have hb2 : ((s[0].toNat : Int) == 48) = true := by rw [hk0]; rfl
  clear hs hk0
  go_enter Tryd.func93, Tryd.ntmps93
  go_wp2_with fail
  go_ret2
  exact ⟨rfl, rfl⟩
theorem l01Number_two (s : ByteArray) (a b : Nat) (ha : 1 ≤ a ∧ a < 10) (hb : b < 10) (hs : s.data.toList = [UInt8.ofNat (48 + a), UInt8.ofNat (48 + b)]) (w : World) :
    Calls Tryd.prog 93 #[.string s] w fun e w' => e = .returned (.tuple #[.int .i64 ((10 * a + b : Nat) : Int), .bool true]) ∧ Below w.heap.size w w' := by
  have hsz : s.size = 2 := by have := congrArg List.length hs; simpa using this
  obtain ⟨h0, hk0⟩ := str_at hs (k := 0) (b := UInt8.ofNat (48 + a)) rfl
  obtain ⟨h1, hk1⟩ := str_at hs (k := 1) (b := UInt8.ofNat (48 + b)) (r := []) rfl
  have hba : (s[0].toNat : Int) = 48 + (a : Int) := by rw [hk0, dig_toNat ha.2]; omega
  have hbb : (s[1].toNat : Int) = 48 + (b : Int) := by rw [hk1, dig_toNat hb]; omega
  have hsI : (s.size : Int) = 2 := by omega
  have HD0 := Lib.hid (l01Digit_is (s[0].toNat : Int) true (by rw [hba]; simp; omega))
  have HD1 := Lib.hid (l01Digit_is (s[1].toNat : Int) true (by rw [hbb]; simp; omega))
  have hu0 : IntKind.u8.wrap ((s[0].toNat : Int) - 48) = (a : Int) := by
    rw [hba]
    simp only [IntKind.wrap, IntKind.bits, IntKind.signed]
    first | omega | (simp; omega)
  have hu1 : IntKind.u8.wrap ((s[1].toNat : Int) - 48) = (b : Int) := by
    rw [hbb]
    simp only [IntKind.wrap, IntKind.bits, IntKind.signed]
    first | omega | (simp; omega)
  have hia : IntKind.i64.wrap (a : Int) = (a : Int) := IntWalk.i64_in _ (by omega)
  have hib : IntKind.i64.wrap (b : Int) = (b : Int) := IntWalk.i64_in _ (by omega)
  have hi10 : IntKind.i64.wrap (10 * (a : Int)) = 10 * (a : Int) := IntWalk.i64_in _ (by omega)
  have hiab : IntKind.i64.wrap (10 * (a : Int) + (b : Int)) = 10 * (a : Int) + (b : Int) := IntWalk.i64_in _ (by omega)
  have hbe : ((s[0].toNat : Int) == 45) = false := by rw [beq_eq_false_iff_ne]; omega
  have h48 : ((s[0].toNat : Int) == 48) = false := by rw [beq_eq_false_iff_ne]; omega
  have HR : Hid ((10 * (a : Int) + (b : Int)) = ((10 * a + b : Nat) : Int)) := by unfold Hid; omega
  clear hs hk0 hk1 hba hbb
  go_enter Tryd.func93, Tryd.ntmps93
  go_wp2_with fail
  go_loopw [5, 6] (fun m i wr => ∃ j : Nat, j ≤ 2 ∧ i = .int .i64 (j : Int) ∧ m = .int .i64 (if j = 0 then 0 else if j = 1 then (a : Int) else 10 * (a : Int) + (b : Int)) ∧ wr = w) (fun _ i _ => 2 - (intOf i).toNat)
  case atStart => exact ⟨0, by omega, rfl, rfl, rfl⟩
  case round =>
    obtain ⟨j, hj, rfl, rfl, rfl⟩ := hrel
    rcases Nat.lt_or_ge j 1 with hj0 | hj0
    · obtain rfl : j = 0 := by omega
      rw [if_pos rfl]
      rw [show ((0 : Nat) : Int) = 0 from rfl]
      go_wp2_with fail
      refine (HD0.out _).mono ?_
      rintro e w1 ⟨rfl, rfl⟩
      go_wp2_with fail
      go_roundw
      case rel => refine ⟨1, by omega, ?_, ?_, ?_⟩ <;> first | rfl | trivial | simp
      case measure => simp [intOf]
    rcases Nat.lt_or_ge j 2 with hj1 | hj1
    · obtain rfl : j = 1 := by omega
      rw [if_neg (by decide), if_pos rfl]
      rw [show ((1 : Nat) : Int) = 1 from rfl]
      go_wp2_with fail
      refine (HD1.out _).mono ?_
      rintro e w1 ⟨rfl, rfl⟩
      go_wp2_with fail
      go_roundw
      case rel => refine ⟨2, by omega, ?_, ?_, ?_⟩ <;> first | rfl | trivial | simp
      case measure => simp [intOf]
    · obtain rfl : j = 2 := by omega
      rw [if_neg (by decide), if_neg (by decide)]
      rw [show ((2 : Nat) : Int) = 2 from rfl]
      go_wp2_with fail
      go_ret2
      rw [← HR.out]
      exact ⟨rfl, Below.refl _ _⟩
end Go.Proofs.YtgcedfpjgdeakaaDoor

/- Reading the text of a loop program, by the reference: the number at a place. -/
namespace Go.Proofs.YtgcedfpjgdeakaaDoor
open Go.RowKit
set_option linter.all false

theorem dgs_lt {S : List UInt8} : ∀ {j : Nat}, j < dgs S → ∃ b r, S.drop j = b :: r ∧ digB b = true := by
  induction S with
  | nil => intro j h; exact absurd h (by simp [dgs])
  | cons c t ih =>
    intro j h
    cases hc : digB c with
    | false => rw [dgs_stop (l := c :: t) hc] at h; omega
    | true =>
      rw [dgs_cons t hc] at h
      cases j with
      | zero => exact ⟨c, t, rfl, hc⟩
      | succ j => rw [List.drop_succ_cons]; exact ih (by omega)
theorem dgs_end (S : List UInt8) : S.drop (dgs S) = [] ∨ ∃ b r, S.drop (dgs S) = b :: r ∧ digB b = false := by
  induction S with
  | nil => exact .inl rfl
  | cons c t ih =>
    cases hc : digB c with
    | false => rw [dgs_stop (l := c :: t) hc]; exact .inr ⟨c, t, rfl, hc⟩
    | true => rw [dgs_cons t hc, List.drop_succ_cons]; exact ih
theorem dig_form {x : UInt8} (h : digB x = true) : ∃ d, d < 10 ∧ x = UInt8.ofNat (48 + d) := by
  have := (digB_iff x).1 h
  exact ⟨x.toNat - 48, by omega, UInt8.toNat_inj.1 (by rw [dig_toNat (by omega)]; omega)⟩
/-- The digits at a place, read. -/
theorem small_num (S : List UInt8) (s1 : ByteArray) (h1 : s1.data.toList = S.take (min (dgs S) 2)) : ∃ (z : Int) (ok : Bool), (∀ W, Calls Tryd.prog 93 #[.string s1] W fun e w' => e = .returned (.tuple #[.int .i64 z, .bool ok]) ∧ Below W.heap.size W w') ∧
    (ok = true → smallS S = (z, S.drop (min (dgs S) 2))) ∧ (ok = false → smallS S = (-1, S)) := by
  rcases Nat.lt_or_ge (dgs S) 1 with h | h
  · have hk : min (dgs S) 2 = 0 := by omega
    rw [hk, List.take_zero] at h1
    refine ⟨0, false, fun W => (l01Number_empty s1 h1 W).mono ?_, fun h => (by cases h), fun _ => smallS_no (.inl hk)⟩
    rintro e w' ⟨rfl, rfl⟩
    exact ⟨rfl, Below.refl _ _⟩
  obtain ⟨x, r, hx, hdx⟩ := dgs_lt (S := S) (j := 0) h
  rw [List.drop_zero] at hx
  subst hx
  obtain ⟨a, ha, rfl⟩ := dig_form hdx
  rcases Nat.lt_or_ge (dgs (UInt8.ofNat (48 + a) :: r)) 2 with h2 | h2
  · have hk : min (dgs (UInt8.ofNat (48 + a) :: r)) 2 = 1 := by omega
    rw [hk] at h1 ⊢
    have hv : valD 0 ((UInt8.ofNat (48 + a) :: r).take 1) = a := by
      rw [List.take_succ_cons, List.take_zero, valD_cons, valD_nil, dig_toNat ha]; omega
    refine ⟨a, true, fun W => l01Number_one s1 a ha h1 W, fun _ => ?_, fun h => (by cases h)⟩
    rw [smallS_yes (by omega), hk, hv]
  · have hk : min (dgs (UInt8.ofNat (48 + a) :: r)) 2 = 2 := by omega
    rw [hk] at h1 ⊢
    obtain ⟨y, r2, hy, hdy⟩ := dgs_lt (S := UInt8.ofNat (48 + a) :: r) (j := 1) h2
    rw [List.drop_succ_cons, List.drop_zero] at hy
    subst hy
    obtain ⟨b, hb, rfl⟩ := dig_form hdy
    have h48 : ∀ {c : Nat}, c < 10 → UInt8.ofNat (48 + c) = 48 → c = 0 := by
      intro c hc e
      have := congrArg UInt8.toNat e
      rw [dig_toNat hc] at this
      have h48 : (48 : UInt8).toNat = 48 := rfl
      omega
    rcases Nat.eq_zero_or_pos a with ha0 | ha0
    · subst ha0
      refine ⟨0, false, fun W => (l01Number_zero s1 (UInt8.ofNat (48 + b)) h1 W).mono ?_, fun h => (by cases h), fun _ => smallS_no (.inr ⟨hk, rfl⟩)⟩
      rintro e w' ⟨rfl, rfl⟩
      exact ⟨rfl, Below.refl _ _⟩
    · have hv : valD 0 ((UInt8.ofNat (48 + a) :: UInt8.ofNat (48 + b) :: r2).take 2) = 10 * a + b := by
        rw [List.take_succ_cons, List.take_succ_cons, List.take_zero, valD_cons, valD_cons, valD_nil, dig_toNat ha, dig_toNat hb]; omega
      refine ⟨((10 * a + b : Nat) : Int), true, fun W => l01Number_two s1 a b ⟨ha0, ha⟩ hb h1 W, fun _ => ?_, fun h => (by cases h)⟩
      rw [smallS_yes (by intro e; rcases e with e | ⟨_, e⟩; omega; have := h48 ha e; omega), hk, hv]
def SmPost (L S : List UInt8) (w : World) : Ending → World → Prop := fun e w' => ∃ (q : Nat), e = .returned (.tuple #[.int .i64 (smallS S).1, .int .i64 q]) ∧ q ≤ L.length ∧ L.drop q = (smallS S).2 ∧ Below w.heap.size w w'
theorem l17Small_any (s : ByteArray) (L : List UInt8) (hs : s.data.toList = L) (at' : Nat) (S : List UInt8) (hS : L.drop at' = S) (hat : at' ≤ L.length ∧ L.length ≤ 1048576) (w : World) :
    Calls Tryd.prog 68 #[.string s, .int .i64 at'] w (SmPost L S w) := by
  have hsz : s.size = L.length := by rw [← hs]; simp
  obtain ⟨k, hk⟩ : ∃ k, min (dgs S) 2 = k := ⟨_, rfl⟩
  have HK := Lib.hid hk
  have hSl : S.length = L.length - at' := by rw [← hS, List.length_drop]
  have hkl : at' + k ≤ L.length := by have := dgs_le S; omega
  have hk2 : k ≤ 2 := by omega
  obtain ⟨s1, hs1⟩ : ∃ s1, s.extract at' (at' + k) = s1 := ⟨_, rfl⟩
  have hex : s1.data.toList = S.take (min (dgs S) 2) := by
    have e1 : s = ⟨L.toArray⟩ := by rw [← hs]
    rw [← hs1, e1, ByteArray.extract_mk, hk, ← hS]; simp
  obtain ⟨z, ok, HN, hok1, hok2⟩ := small_num S s1 hex
  have HNUM := Lib.hid HN
  have hslc : ∀ W, (Instr.slice 9 (.string s) (some (.int .i64 (at' : Int))) (some (.int .i64 ((at' + k : Nat) : Int))) none).run Tryd.prog W = .ok (.string s1) W := by
    intro W
    rw [run_slice_string W _ s .i64 .i64 _ _ Tryd.underlying9 (by omega) (by omega) (by omega), ← hs1]
    congr 3
  have HRES : Hid (if ok = true then (smallS S).1 = z ∧ L.drop (at' + k) = (smallS S).2 else (smallS S).1 = -1 ∧ L.drop at' = (smallS S).2) := by
    unfold Hid
    cases ok with
    | true => rw [if_pos rfl, hok1 rfl, hk, ← hS, List.drop_drop]; exact ⟨rfl, rfl⟩
    | false => rw [if_neg (by decide), hok2 rfl]; exact ⟨rfl, hS⟩
  have HDG : Hid (∀ q j, at' + j = q → j < k → ∃ h : q < s.size, ∀ W, Calls Tryd.prog 92 #[.int .u8 (s[q].toNat : Int)] W fun e w' => e = .returned (.bool true) ∧ W = w') := by
    rintro _ j rfl hj
    obtain ⟨b, r, e, hb⟩ := dgs_lt (S := S) (j := j) (by omega)
    rw [← hS, List.drop_drop] at e
    obtain ⟨h, e2⟩ := str_at hs e
    exact ⟨h, l01Digit_is _ true (by rw [digB_int, e2, hb])⟩
  have HDE : Hid (∀ q, at' + k = q → k < 2 → ∀ h : q < s.size, ∀ W, Calls Tryd.prog 92 #[.int .u8 (s[q].toNat : Int)] W fun e w' => e = .returned (.bool false) ∧ W = w') := by
    rintro _ rfl hk1 h
    have hkd : k = dgs S := by omega
    rcases dgs_end S with e | ⟨b, r, e, hb⟩
    · have := congrArg List.length e
      rw [List.length_drop, List.length_nil] at this; omega
    · rw [← hkd, ← hS, List.drop_drop] at e
      obtain ⟨h, e2⟩ := str_at hs e
      exact l01Digit_is _ false (by rw [digB_int, e2, hb])
  have hw2 : IntKind.i64.wrap ((at' : Int) + 2) = (at' : Int) + 2 := IntWalk.i64_in _ (by omega)
  clear hs hex HN hok1 hok2 hS hk hs1
  go_enter Tryd.func68, Tryd.ntmps68
  go_wp2_with fail
  go_loopw [6] (fun i wr => ∃ j : Nat, j ≤ k ∧ i = .int .i64 ((at' + j : Nat) : Int) ∧ wr = w) (fun i _ => (at' + k - (intOf i).toNat : Nat))
  case atStart => exact ⟨0, by omega, rfl, rfl⟩
  case round =>
    obtain ⟨j, hj, rfl, rfl⟩ := hrel
    obtain ⟨q, hq⟩ : ∃ q, at' + j = q := ⟨_, rfl⟩
    rcases Nat.lt_or_ge j k with hjk | hjk
    · obtain ⟨hlt, hdg⟩ := HDG.out q j hq hjk
      have HD1 := Lib.hid hdg
      rw [hq]
      have hltI : (q : Int) < (s.size : Int) := by omega
      have hl2 : (q : Int) < (at' : Int) + 2 := by omega
      have hwq : IntKind.i64.wrap ((q : Int) + 1) = (q : Int) + 1 := IntWalk.i64_in _ (by omega)
      have HQ := Lib.hid hq
      clear hq hdg
      go_wp2_with fail
      refine (HD1.out _).mono ?_
      rintro e w1 ⟨rfl, rfl⟩
      go_wp2_with fail
      go_roundw
      case rel => exact ⟨j + 1, by omega, by have := HQ.out; go_num, trivial⟩
      case measure => have := HQ.out; first | (simp [intOf]; done) | (simp [intOf]; omega)
    · obtain rfl : j = k := by omega
      have FIN : Hid (∀ W, Below wr.heap.size wr W → SmPost L S wr (.returned (.tuple #[.int .i64 (if ok = true then z else -1), .int .i64 (if ok = true then ((at' + j : Nat) : Int) else (at' : Int))])) W) := by
        intro W hW
        have h := HRES.out
        cases ok with
        | true => rw [if_pos rfl] at h; exact ⟨at' + j, by rw [h.1]; rfl, hkl, h.2, hW⟩
        | false => rw [if_neg (by decide)] at h; exact ⟨at', by rw [h.1]; rfl, hat.1, h.2, hW⟩
      have hq2 : q < s.size → q < at' + 2 → j < 2 := by omega
      rw [hq] at hslc FIN ⊢
      have HDQ := Lib.hid (HDE.out q hq)
      clear HDE HDG HRES HK
      by_cases hlt : q < s.size
      · have hltI : (q : Int) < (s.size : Int) := by omega
        by_cases hl2 : q < at' + 2
        · have hl2I : (q : Int) < (at' : Int) + 2 := by omega
          have HD1 := Lib.hid (HDQ.out (hq2 hlt hl2) hlt)
          clear hq hq2
          go_wp2_with fail
          refine (HD1.out _).mono ?_
          rintro e w1 ⟨rfl, rfl⟩
          go_wp2_with fail
          refine (HNUM.out _).mono ?_
          rintro e w1 ⟨rfl, b1⟩
          have FN := Lib.hid (FIN.out w1 b1)
          clear b1
          cases ok
          all_goals
            go_wp2_with fail
            go_ret2
            exact FN.out
        · have hl2I : ¬ (q : Int) < (at' : Int) + 2 := by omega
          clear hq hq2
          go_wp2_with fail
          refine (HNUM.out _).mono ?_
          rintro e w1 ⟨rfl, b1⟩
          have FN := Lib.hid (FIN.out w1 b1)
          clear b1
          cases ok
          all_goals
            go_wp2_with fail
            go_ret2
            exact FN.out
      · have hltI : ¬ (q : Int) < (s.size : Int) := by omega
        clear hq hq2
        go_wp2_with fail
        refine (HNUM.out _).mono ?_
        rintro e w1 ⟨rfl, b1⟩
        have FN := Lib.hid (FIN.out w1 b1)
        clear b1
        cases ok
        all_goals
          go_wp2_with fail
          go_ret2
          exact FN.out
end Go.Proofs.YtgcedfpjgdeakaaDoor

/- A command that begins with a number, read by the program: readOther. -/
namespace Go.Proofs.YtgcedfpjgdeakaaDoor
open Go.RowKit
set_option linter.all false

/-- What readLoops gives. -/
def RlPost (f : List UInt8 → List R3 × List UInt8) (l : List UInt8) (w : World) : Ending → World → Prop := fun e w' =>
  ∃ A n c S, e = .returned (.tuple #[.slice A n c, .string S]) ∧ (f l).1.length = n ∧ S.data.toList = (f l).2 ∧ w'.ownsRow w.heap.size 54 3 (.slice A n c) n (rows R3.vs (f l).1) ∧ Below w.heap.size w w'
/-- What readOther gives. -/
def RoPost (o : R3 × List R3 × List UInt8) (w : World) : Ending → World → Prop := fun e w' =>
  ∃ A n c S, e = .returned (.tuple #[.agg #[.int .i64 o.1.a, .int .i64 o.1.b, .int .i64 o.1.c], .slice A n c, .string S]) ∧ o.2.1.length = n ∧ S.data.toList = o.2.2 ∧ w'.ownsRow w.heap.size 54 3 (.slice A n c) n (rows R3.vs o.2.1) ∧ Below w.heap.size w w'
theorem hasP_61 (q : List UInt8) : Lib.hasPrefix q [61] = true ↔ ∃ r, q = 61 :: r := by
  cases q with
  | nil => simp [Lib.hasPrefix]
  | cons b r =>
    simp [Lib.hasPrefix]
    exact ⟨Eq.symm, Eq.symm⟩
theorem hasP_2 (x y : UInt8) (q : List UInt8) : Lib.hasPrefix q [x, y] = true ↔ ∃ r, q = x :: y :: r := by
  cases q with
  | nil => simp [Lib.hasPrefix]
  | cons b r =>
    cases r with
    | nil => simp [Lib.hasPrefix]
    | cons c r =>
      simp [Lib.hasPrefix]
      exact ⟨fun h => ⟨h.1.symm, h.2.symm⟩, fun h => ⟨h.1.symm, h.2.symm⟩⟩
theorem otherI_no {body : List UInt8 → List R3 × List UInt8} {S : List UInt8} {n : Int} {q : List UInt8} (h : numI S = (n, q)) (h1 : Lib.hasPrefix q [61] = false) (h2 : Lib.hasPrefix q [42, 40] = false) (h3 : Lib.hasPrefix q [63, 40] = false) : otherI body S = (⟨4, -1, 0⟩, [], q) := by
  unfold otherI
  rw [h]
  split
  · rename_i r e
    have e : q = 61 :: r := e
    rw [(hasP_61 q).2 ⟨r, e⟩] at h1; cases h1
  · rename_i r e
    have e : q = 42 :: 40 :: r := e
    rw [(hasP_2 42 40 q).2 ⟨r, e⟩] at h2; cases h2
  · rename_i r e
    have e : q = 63 :: 40 :: r := e
    rw [(hasP_2 63 40 q).2 ⟨r, e⟩] at h3; cases h3
  · rfl
theorem cutNo (s : ByteArray) (q p : List UInt8) (hs : s.data.toList = q) (h : Lib.hasPrefix q p = false) (w : World) :
    Calls Tryd.prog 72 #[.string s, .string ⟨p.toArray⟩] w fun e w' => e = .returned (.tuple #[.string s, .bool false]) ∧ w = w' := by
  have := cutPrefixAny s ⟨p.toArray⟩ w
  simp only [List.toList_toArray] at this
  rw [hs, h] at this
  unfold Lib.trimPrefix at this
  rw [h] at this
  have e : (⟨q.toArray⟩ : ByteArray) = s := by rw [← hs]
  simpa [e] using this
theorem cutYes (s : ByteArray) (q p : List UInt8) (hs : s.data.toList = q) (h : Lib.hasPrefix q p = true) (w : World) :
    Calls Tryd.prog 72 #[.string s, .string ⟨p.toArray⟩] w fun e w' => e = .returned (.tuple #[.string ⟨(q.drop p.length).toArray⟩, .bool true]) ∧ w = w' := by
  have := cutPrefixAny s ⟨p.toArray⟩ w
  simp only [List.toList_toArray] at this
  rw [hs, h] at this
  unfold Lib.trimPrefix at this
  rw [h] at this
  simpa using this
theorem sizeL (A : Option Addr) (n c : Nat) (w : World) : Calls Tryd.prog 73 #[.slice A n c] w fun e w' => e = .returned (.int .i64 n) ∧ w = w' := by
  go_enter Tryd.func73, Tryd.ntmps73
  go_wp2
  go_ret
  exact ⟨rfl, rfl⟩
/-- The result's block and the command's. -/
structure RoW (w : World) (k a b : Int) (W : World) : Prop where
  res : W.heap[w.heap.size]? = some (.cells #[.int .i64 0, .int .i64 0, .int .i64 0] 54 (0, 0))
  cmd : W.heap[w.heap.size + 1]? = some (.cells #[.int .i64 k, .int .i64 a, .int .i64 b] 54 (0, 0))
  frame : Below w.heap.size w W
theorem RoW.below {w W W' : World} {k a b : Int} (h : RoW w k a b W) (hb : Below W.heap.size W W') : RoW w k a b W' :=
  ⟨(hb.block _ (heap_lt h.res)).trans h.res, (hb.block _ (heap_lt h.cmd)).trans h.cmd, below_step h.frame hb⟩
theorem RoW.setK {w W : World} {k a b : Int} (h : RoW w k a b W) (v : Int) : RoW w v a b (W.setCell ⟨w.heap.size + 1, 0, none⟩ (.int .i64 v)) :=
  ⟨heap_set_other h.res _ (by simp) _, heap_set h.cmd (i := 0) (.int .i64 v), h.frame.setCell (p := ⟨w.heap.size + 1, 0, none⟩) (by simp) _⟩
theorem RoW.setA {w W : World} {k a b : Int} (h : RoW w k a b W) (v : Int) : RoW w k v b (W.setCell ⟨w.heap.size + 1, 1, none⟩ (.int .i64 v)) :=
  ⟨heap_set_other h.res _ (by simp) _, heap_set h.cmd (i := 1) (.int .i64 v), h.frame.setCell (p := ⟨w.heap.size + 1, 1, none⟩) (by simp) _⟩
theorem RoW.setB {w W : World} {k a b : Int} (h : RoW w k a b W) (v : Int) : RoW w k a v (W.setCell ⟨w.heap.size + 1, 2, none⟩ (.int .i64 v)) :=
  ⟨heap_set_other h.res _ (by simp) _, heap_set h.cmd (i := 2) (.int .i64 v), h.frame.setCell (p := ⟨w.heap.size + 1, 2, none⟩) (by simp) _⟩
theorem RoW.cells {w W : World} {k a b : Int} (h : RoW w k a b W) : (W.cell? ⟨w.heap.size + 1, 0, none⟩ = some (.int .i64 k) ∧ W.frozen? ⟨w.heap.size + 1, 0, none⟩ = false) ∧ (W.cell? ⟨w.heap.size + 1, 1, none⟩ = some (.int .i64 a) ∧ W.frozen? ⟨w.heap.size + 1, 1, none⟩ = false) ∧
    (W.cell? ⟨w.heap.size + 1, 2, none⟩ = some (.int .i64 b) ∧ W.frozen? ⟨w.heap.size + 1, 2, none⟩ = false) :=
  ⟨⟨by rw [cell_of_heap h.cmd]; rfl, frozen_of_heap h.cmd⟩, ⟨by rw [cell_of_heap h.cmd]; rfl, frozen_of_heap h.cmd⟩, ⟨by rw [cell_of_heap h.cmd]; rfl, frozen_of_heap h.cmd⟩⟩
theorem RoW.rcells {w W : World} {k a b : Int} (h : RoW w k a b W) : (W.cell? ⟨w.heap.size, 0, none⟩ = some (.int .i64 0) ∧ W.frozen? ⟨w.heap.size, 0, none⟩ = false) ∧ (W.cell? ⟨w.heap.size, 1, none⟩ = some (.int .i64 0) ∧ W.frozen? ⟨w.heap.size, 1, none⟩ = false) ∧
    (W.cell? ⟨w.heap.size, 2, none⟩ = some (.int .i64 0) ∧ W.frozen? ⟨w.heap.size, 2, none⟩ = false) :=
  ⟨⟨by rw [cell_of_heap h.res]; rfl, frozen_of_heap h.res⟩, ⟨by rw [cell_of_heap h.res]; rfl, frozen_of_heap h.res⟩, ⟨by rw [cell_of_heap h.res]; rfl, frozen_of_heap h.res⟩⟩
/-- The world behind the store of the result. -/
def finW (w : World) (k a b : Int) (W : World) : World := ((W.setCell ⟨w.heap.size, 0, none⟩ (.int .i64 k)).setCell ⟨w.heap.size, 1, none⟩ (.int .i64 a)).setCell ⟨w.heap.size, 2, none⟩ (.int .i64 b)
theorem RoW.fin {w W : World} {k a b : Int} (h : RoW w k a b W) : (finW w k a b W).cell? ⟨w.heap.size, 0, none⟩ = some (.int .i64 k) ∧ (finW w k a b W).cell? ⟨w.heap.size, 1, none⟩ = some (.int .i64 a) ∧ (finW w k a b W).cell? ⟨w.heap.size, 2, none⟩ = some (.int .i64 b) ∧ Below w.heap.size w (finW w k a b W) := by
  have e := heap_set (heap_set (heap_set h.res (i := 0) (.int .i64 k)) (i := 1) (.int .i64 a)) (i := 2) (.int .i64 b)
  refine ⟨by unfold finW; rw [cell_of_heap e]; rfl, by unfold finW; rw [cell_of_heap e]; rfl, by unfold finW; rw [cell_of_heap e]; rfl, ?_⟩
  exact ((h.frame.setCell (p := ⟨w.heap.size, 0, none⟩) (Nat.le_refl _) _).setCell (p := ⟨w.heap.size, 1, none⟩) (Nat.le_refl _) _).setCell (p := ⟨w.heap.size, 2, none⟩) (Nat.le_refl _) _
theorem fin_own {w W : World} {k a b : Int} {base n : Nat} {v : Value} {xs : List Value} (h : W.ownsRow base 54 3 v n xs) (hb : w.heap.size < base) : (finW w k a b W).ownsRow w.heap.size 54 3 v n xs := by
  have hne : ∀ i : Nat, some (⟨w.heap.size, i, none⟩ : Addr).block ≠ v.ownBlock := fun i e => by
    have := (h.lt _ e.symm).1
    dsimp only at this
    omega
  unfold finW
  exact own_base (own_setCell (own_setCell (own_setCell h (hne 0) _) (hne 1) _) (hne 2) _) (by omega)
theorem RoW.start (w : World) : RoW w 0 0 0 ((w.alloc (.cells #[.int .i64 0, .int .i64 0, .int .i64 0] 54)).alloc (.cells #[.int .i64 0, .int .i64 0, .int .i64 0] 54)) := by
  obtain ⟨w2, HW2, B2, x2, y2⟩ := al2 w (.cells #[.int .i64 0, .int .i64 0, .int .i64 0] 54) (.cells #[.int .i64 0, .int .i64 0, .int .i64 0] 54)
  rw [HW2.out] at x2 y2 B2
  exact ⟨x2, y2, B2⟩

set_option maxRecDepth 100000 in
set_option maxHeartbeats 4000000 in
theorem readOther_any (f : List UInt8 → List R3 × List UInt8) (dep : Int) (hd : 0 ≤ dep ∧ dep ≤ 7) (s : ByteArray) (l : List UInt8) (hs : s.data.toList = l) (hl : l.length ≤ 1048576) (w : World) (hE : ErrAt w) (hfl : ∀ S, (f S).1.length ≤ 5000)
    (hf : ∀ (s2 : ByteArray) (l2 : List UInt8) (W : World), s2.data.toList = l2 → l2.length ≤ l.length → ErrAt W → Calls Tryd.prog 19 #[.string s2, .int .i64 (dep + 1)] W (RlPost f l2 W)) :
    Calls Tryd.prog 38 #[.string s, .int .i64 dep] w (RoPost (otherI f l) w) := by
  obtain ⟨q, hq⟩ : ∃ q, (numI l).2 = q := ⟨_, rfl⟩
  obtain ⟨z, hz⟩ : ∃ z, (numI l).1 = z := ⟨_, rfl⟩
  have hnl := numI_len l
  have hpair : numI l = (z, q) := by rw [← hq, ← hz]
  rw [hq, hz] at hnl
  have HNUM := Lib.hid (fun W (hW : ErrAt W) => numberAt_any s l hs hl W hW)
  rw [hz, hq] at HNUM
  have HF := Lib.hid hf
  have HFL := Lib.hid hfl
  have HNL := Lib.hid hnl.1
  have HLL := Lib.hid hl
  have HE := Lib.hid hE
  have HEB : Hid (∀ W, Below w.heap.size w W → ErrAt W) := fun W hW => hE.below hW
  obtain ⟨w2, HW2⟩ : ∃ w2, Hid (w2 = (w.alloc (.cells #[.int .i64 0, .int .i64 0, .int .i64 0] 54)).alloc (.cells #[.int .i64 0, .int .i64 0, .int .i64 0] 54)) := ⟨_, rfl⟩
  have HR2 := Lib.hid (RoW.start w)
  rw [← HW2.out] at HR2
  cases h1 : Lib.hasPrefix q [61] with
  | true =>
    obtain ⟨r, hr⟩ := (hasP_61 q).1 h1
    subst hr
    obtain ⟨z2, hz2⟩ : ∃ z2, (numI r).1 = z2 := ⟨_, rfl⟩
    obtain ⟨q2, hq2⟩ : ∃ q2, (numI r).2 = q2 := ⟨_, rfl⟩
    have HO : Hid (otherI f l = (⟨2, z, z2⟩, [], q2)) := otherI_copy f hpair (by rw [← hz2, ← hq2])
    have hrl : r.length ≤ 1048576 := by have h9 := hnl.1; rw [List.length_cons] at h9; omega
    have HNUM2 := Lib.hid (fun (S : ByteArray) (hS : S.data.toList = r) W (hW : ErrAt W) => numberAt_any S r hS hrl W hW)
    rw [hz2, hq2] at HNUM2
    clear hz hq hpair hnl hs hl hE hfl hf h1 hz2 hq2 hrl
    go_enter Tryd.func38, Tryd.ntmps38
    go_wp2_with fail
    rw [← HW2.out]
    refine (HNUM.out _ (HEB.out _ HR2.out.frame)).mono ?_
    rintro e w3 ⟨⟨S1, rfl, hS1⟩, b3⟩
    have HR3 := Lib.hid (HR2.out.below b3)
    obtain ⟨⟨p0, f0⟩, ⟨p1, f1⟩, ⟨p2, f2⟩⟩ := HR3.out.cells
    obtain ⟨S2, hS2⟩ : ∃ S2 : ByteArray, S2 = ⟨r.toArray⟩ := ⟨_, rfl⟩
    have HS2 : Hid (S2.data.toList = r) := by unfold Hid; rw [hS2]
    have HC : Hid (∀ W, Calls Tryd.prog 72 #[.string S1, .string ⟨#[61]⟩] W fun e w' => e = .returned (.tuple #[.string S2, .bool true]) ∧ W = w') := by
      intro W
      have := cutYes S1 (61 :: r) [61] hS1 ((hasP_61 _).2 ⟨r, rfl⟩) W
      rw [hS2]; exact this
    obtain ⟨w4, HW4⟩ : ∃ w4, Hid (w4 = w3.setCell ⟨w.heap.size + 1, 1, none⟩ (.int .i64 z)) := ⟨_, rfl⟩
    have HR4 : Hid (RoW w 0 z 0 w4) := by unfold Hid; rw [HW4.out]; exact HR3.out.setA z
    clear b3 hS1 hS2
    go_wp2_with fail
    rw [← HW4.out]
    refine (HC.out _).mono ?_
    rintro e w4' ⟨rfl, rfl⟩
    clear p0 f0 p1 f1 p2 f2
    obtain ⟨⟨p0, f0⟩, ⟨p1, f1⟩, ⟨p2, f2⟩⟩ := HR4.out.cells
    obtain ⟨w5, HW5⟩ : ∃ w5, Hid (w5 = w4.setCell ⟨w.heap.size + 1, 0, none⟩ (.int .i64 2)) := ⟨_, rfl⟩
    have HR5 : Hid (RoW w 2 z 0 w5) := by unfold Hid; rw [HW5.out]; exact HR4.out.setK 2
    go_wp2_with fail
    rw [← HW5.out]
    refine (HNUM2.out _ HS2.out _ (HEB.out _ HR5.out.frame)).mono ?_
    rintro e w6 ⟨⟨S3, rfl, hS3⟩, b6⟩
    have HR6 := Lib.hid (HR5.out.below b6)
    have HS3 := Lib.hid hS3
    clear p0 f0 p1 f1 p2 f2 b6 hS3
    obtain ⟨⟨p0, f0⟩, ⟨p1, f1⟩, ⟨p2, f2⟩⟩ := HR6.out.cells
    have HR7 := Lib.hid (HR6.out.setB z2)
    obtain ⟨⟨g0, h0⟩, ⟨g1, h1⟩, ⟨g2, h2⟩⟩ := HR7.out.cells
    obtain ⟨⟨r0, k0⟩, ⟨r1, k1⟩, ⟨r2, k2⟩⟩ := HR7.out.rcells
    obtain ⟨t0, t1, t2, HBF⟩ := HR7.out.fin
    have HBF' := Lib.hid HBF
    clear HBF
    unfold finW at t0 t1 t2
    go_wp2_with fail
    refine bodyPost_ret (v := .tuple #[.agg #[.int .i64 2, .int .i64 z, .int .i64 z2], .slice none 0 0, .string S3]) (by simp [results, Tryd.results38, go_sem, t0, t1, t2]) rfl ?_
    rw [HO.out]
    exact ⟨none, 0, 0, S3, rfl, rfl, HS3.out, World.ownsRow_nil _ _ _ _, HBF'.out⟩
  | false =>
    cases h2 : Lib.hasPrefix q [42, 40] with
    | true =>
      obtain ⟨r, hr⟩ := (hasP_2 42 40 q).1 h2
      go_enter Tryd.func38, Tryd.ntmps38
      go_wp2_with fail
      rw [← HW2.out]
      refine (HNUM.out _ (HEB.out _ HR2.out.frame)).mono ?_
      rintro e w3 ⟨⟨S1, rfl, hS1⟩, b3⟩
      have HR3 := Lib.hid (HR2.out.below b3)
      obtain ⟨⟨p0, f0⟩, ⟨p1, f1⟩, ⟨p2, f2⟩⟩ := HR3.out.cells
      have HC1 := Lib.hid (fun W => cutNo S1 q [61] hS1 h1 W)
      have HO : Hid (otherI f l = (⟨3, z, ((f r).1.length : Int)⟩, (f r).1, Lib.trimPrefix (f r).2 [41])) := otherI_times f (by rw [hpair, hr]) rfl
      have HRL : Hid (r.length ≤ l.length) := by have h9 := hnl.1; rw [hr, List.length_cons, List.length_cons] at h9; unfold Hid; omega
      obtain ⟨S2, hS2⟩ : ∃ S2 : ByteArray, S2 = ⟨r.toArray⟩ := ⟨_, rfl⟩
      have HS2 : Hid (S2.data.toList = r) := by unfold Hid; rw [hS2]
      have HC2 : Hid (∀ W, Calls Tryd.prog 72 #[.string S1, .string ⟨#[42, 40]⟩] W fun e w' => e = .returned (.tuple #[.string S2, .bool true]) ∧ W = w') := by
        intro W
        have := cutYes S1 q [42, 40] hS1 h2 W
        rw [hr] at this
        rw [hS2]; exact this
      obtain ⟨w4, HW4⟩ : ∃ w4, Hid (w4 = w3.setCell ⟨w.heap.size + 1, 1, none⟩ (.int .i64 z)) := ⟨_, rfl⟩
      have HR4 : Hid (RoW w 0 z 0 w4) := by unfold Hid; rw [HW4.out]; exact HR3.out.setA z
      have HSS := Lib.hid hS1
      clear b3 hS1 h1 h2 hS2 hr hpair hnl hz hq hs hl hE hfl hf
      go_wp2_with fail
      rw [← HW4.out]
      refine (HC1.out _).mono ?_
      rintro e w4' ⟨rfl, rfl⟩
      go_wp2_with fail
      refine (HC2.out _).mono ?_
      rintro e w4' ⟨rfl, rfl⟩
      clear p0 f0 p1 f1 p2 f2
      obtain ⟨⟨p0, f0⟩, ⟨p1, f1⟩, ⟨p2, f2⟩⟩ := HR4.out.cells
      obtain ⟨w5, HW5⟩ : ∃ w5, Hid (w5 = w4.setCell ⟨w.heap.size + 1, 0, none⟩ (.int .i64 3)) := ⟨_, rfl⟩
      have HR5 : Hid (RoW w 3 z 0 w5) := by unfold Hid; rw [HW5.out]; exact HR4.out.setK 3
      have hwd : IntKind.i64.wrap (dep + 1) = dep + 1 := IntWalk.i64_in _ (by omega)
      go_wp2_with fail
      rw [← HW5.out]
      refine (HF.out S2 r _ HS2.out HRL.out (HEB.out _ HR5.out.frame)).mono ?_
      rintro e w6 ⟨A6, n6, c6, SB, rfl, hn6, hSB, own6, b6⟩
      have HR6 := Lib.hid (HR5.out.below b6)
      have HN6 := Lib.hid hn6; have HSB := Lib.hid hSB
      have HO6 : Hid (w.heap.size < w5.heap.size ∧ w6.ownsRow w5.heap.size 54 3 (.slice A6 n6 c6) n6 (rows R3.vs (f r).1)) := ⟨by have := heap_lt HR5.out.res; exact this, own6⟩
      have hn6b : n6 ≤ 1048576 := by have := HFL.out r; omega
      have HSZ := Lib.hid (sizeL A6 n6 c6)
      clear p0 f0 p1 f1 p2 f2 b6 own6 hn6 hSB
      obtain ⟨⟨p0, f0⟩, ⟨p1, f1⟩, ⟨p2, f2⟩⟩ := HR6.out.cells
      go_wp2_with fail
      refine (HSZ.out _).mono ?_
      rintro e w6' ⟨rfl, rfl⟩
      obtain ⟨w7, HW7⟩ : ∃ w7, Hid (w7 = w6.setCell ⟨w.heap.size + 1, 2, none⟩ (.int .i64 (n6 : Int))) := ⟨_, rfl⟩
      have HR7 : Hid (RoW w 3 z (n6 : Int) w7) := by unfold Hid; rw [HW7.out]; exact HR6.out.setB n6
      have HO7 : Hid (w7.ownsRow w5.heap.size 54 3 (.slice A6 n6 c6) n6 (rows R3.vs (f r).1)) := by
        unfold Hid; rw [HW7.out]
        exact own_setCell HO6.out.2 (fun e => by have := (HO6.out.2.lt _ e.symm).1; have h9 := heap_lt HR5.out.cmd; dsimp only at this; omega) _
      go_wp2_with fail
      rw [← HW7.out]
      clear p0 f0 p1 f1 p2 f2
      obtain ⟨⟨p0, f0⟩, ⟨p1, f1⟩, ⟨p2, f2⟩⟩ := HR7.out.cells
      obtain ⟨⟨r0, k0⟩, ⟨r1, k1⟩, ⟨r2, k2⟩⟩ := HR7.out.rcells
      obtain ⟨t0, t1, t2, HBF⟩ := HR7.out.fin
      have HBF' := Lib.hid HBF
      have HOF := Lib.hid (fin_own (k := 3) (a := z) (b := (n6 : Int)) HO7.out HO6.out.1)
      obtain ⟨ST, hST⟩ : ∃ ST : ByteArray, ST = ⟨(Lib.trimPrefix (f r).2 [41]).toArray⟩ := ⟨_, rfl⟩
      have HT : Hid (∀ W, Calls Tryd.prog 74 #[.string SB, .string ⟨#[41]⟩] W fun e w' => e = .returned (.string ST) ∧ W = w') := by
        intro W
        have := trimPrefixAny SB ⟨#[41]⟩ W
        rw [HSB.out] at this
        rw [hST]; exact this
      have HST : Hid (ST.data.toList = Lib.trimPrefix (f r).2 [41]) := by unfold Hid; rw [hST]
      clear HBF hST
      unfold finW at t0 t1 t2
      go_region_held3 (fun W => W.cell? ⟨w.heap.size + 1, 0, none⟩ = some (.int .i64 3) ∧ W.cell? ⟨w.heap.size + 1, 1, none⟩ = some (.int .i64 z) ∧ W.cell? ⟨w.heap.size + 1, 2, none⟩ = some (.int .i64 (n6 : Int))) (first | go_keep | exact ⟨p0, p1, p2⟩)
        ((first
          | (go_at_call 74; refine (HT.out _).mono ?_; rintro e w8 ⟨rfl, rfl⟩)))
      all_goals
        go_wp2_with fail
        refine bodyPost_ret (v := .tuple #[.agg #[.int .i64 3, .int .i64 z, .int .i64 (n6 : Int)], .slice A6 n6 c6, .string ST]) (by simp [results, Tryd.results38, go_sem, t0, t1, t2]) rfl ?_
        rw [HO.out]
        exact ⟨A6, n6, c6, ST, by show _ = Ending.returned (.tuple #[.agg #[.int .i64 3, .int .i64 z, .int .i64 (((f r).1.length : Nat) : Int)], .slice A6 n6 c6, .string ST]); rw [HN6.out], HN6.out, HST.out, own_below' HOF.out (Below.refl _ _).drew, HBF'.out.drew⟩
    | false =>
      cases h3 : Lib.hasPrefix q [63, 40] with
      | true =>
        obtain ⟨r, hr⟩ := (hasP_2 63 40 q).1 h3
        go_enter Tryd.func38, Tryd.ntmps38
        go_wp2_with fail
        rw [← HW2.out]
        refine (HNUM.out _ (HEB.out _ HR2.out.frame)).mono ?_
        rintro e w3 ⟨⟨S1, rfl, hS1⟩, b3⟩
        have HR3 := Lib.hid (HR2.out.below b3)
        obtain ⟨⟨p0, f0⟩, ⟨p1, f1⟩, ⟨p2, f2⟩⟩ := HR3.out.cells
        have HC1 := Lib.hid (fun W => cutNo S1 q [61] hS1 h1 W)
        have HO : Hid (otherI f l = (⟨4, z, ((f r).1.length : Int)⟩, (f r).1, Lib.trimPrefix (f r).2 [41])) := otherI_again f (by rw [hpair, hr]) rfl
        have HRL : Hid (r.length ≤ l.length) := by have h9 := hnl.1; rw [hr, List.length_cons, List.length_cons] at h9; unfold Hid; omega
        obtain ⟨S2, hS2⟩ : ∃ S2 : ByteArray, S2 = ⟨r.toArray⟩ := ⟨_, rfl⟩
        have HS2 : Hid (S2.data.toList = r) := by unfold Hid; rw [hS2]
        have HC2 := Lib.hid (fun W => cutNo S1 q [42, 40] hS1 h2 W)
        have HC3 : Hid (∀ W, Calls Tryd.prog 72 #[.string S1, .string ⟨#[63, 40]⟩] W fun e w' => e = .returned (.tuple #[.string S2, .bool true]) ∧ W = w') := by
          intro W
          have := cutYes S1 q [63, 40] hS1 h3 W
          rw [hr] at this
          rw [hS2]; exact this
        obtain ⟨w4, HW4⟩ : ∃ w4, Hid (w4 = w3.setCell ⟨w.heap.size + 1, 1, none⟩ (.int .i64 z)) := ⟨_, rfl⟩
        have HR4 : Hid (RoW w 0 z 0 w4) := by unfold Hid; rw [HW4.out]; exact HR3.out.setA z
        have HSS := Lib.hid hS1
        clear b3 hS1 h1 h2 h3 hS2 hr hpair hnl hz hq hs hl hE hfl hf
        go_wp2_with fail
        rw [← HW4.out]
        refine (HC1.out _).mono ?_
        rintro e w4' ⟨rfl, rfl⟩
        go_wp2_with fail
        refine (HC2.out _).mono ?_
        rintro e w4' ⟨rfl, rfl⟩
        clear p0 f0 p1 f1 p2 f2
        obtain ⟨⟨p0, f0⟩, ⟨p1, f1⟩, ⟨p2, f2⟩⟩ := HR4.out.cells
        obtain ⟨w5, HW5⟩ : ∃ w5, Hid (w5 = w4.setCell ⟨w.heap.size + 1, 0, none⟩ (.int .i64 3)) := ⟨_, rfl⟩
        have HR5 : Hid (RoW w 3 z 0 w5) := by unfold Hid; rw [HW5.out]; exact HR4.out.setK 3
        have hwd : IntKind.i64.wrap (dep + 1) = dep + 1 := IntWalk.i64_in _ (by omega)
        go_wp2_with fail
        rw [← HW5.out]
        refine (HC3.out _).mono ?_
        rintro e w5' ⟨rfl, rfl⟩
        clear p0 f0 p1 f1 p2 f2
        obtain ⟨⟨p0, f0⟩, ⟨p1, f1⟩, ⟨p2, f2⟩⟩ := HR5.out.cells
        obtain ⟨w5b, HW5b⟩ : ∃ w5b, Hid (w5b = w5.setCell ⟨w.heap.size + 1, 0, none⟩ (.int .i64 4)) := ⟨_, rfl⟩
        have HR5b : Hid (RoW w 4 z 0 w5b) := by unfold Hid; rw [HW5b.out]; exact HR5.out.setK 4
        go_wp2_with fail
        rw [← HW5b.out]
        refine (HF.out S2 r _ HS2.out HRL.out (HEB.out _ HR5b.out.frame)).mono ?_
        rintro e w6 ⟨A6, n6, c6, SB, rfl, hn6, hSB, own6, b6⟩
        have HR6 := Lib.hid (HR5b.out.below b6)
        have HN6 := Lib.hid hn6; have HSB := Lib.hid hSB
        have HO6 : Hid (w.heap.size < w5b.heap.size ∧ w6.ownsRow w5b.heap.size 54 3 (.slice A6 n6 c6) n6 (rows R3.vs (f r).1)) := ⟨by have := heap_lt HR5b.out.res; exact this, own6⟩
        have hn6b : n6 ≤ 1048576 := by have := HFL.out r; omega
        have HSZ := Lib.hid (sizeL A6 n6 c6)
        clear p0 f0 p1 f1 p2 f2 b6 own6 hn6 hSB
        obtain ⟨⟨p0, f0⟩, ⟨p1, f1⟩, ⟨p2, f2⟩⟩ := HR6.out.cells
        go_wp2_with fail
        refine (HSZ.out _).mono ?_
        rintro e w6' ⟨rfl, rfl⟩
        obtain ⟨w7, HW7⟩ : ∃ w7, Hid (w7 = w6.setCell ⟨w.heap.size + 1, 2, none⟩ (.int .i64 (n6 : Int))) := ⟨_, rfl⟩
        have HR7 : Hid (RoW w 4 z (n6 : Int) w7) := by unfold Hid; rw [HW7.out]; exact HR6.out.setB n6
        have HO7 : Hid (w7.ownsRow w5b.heap.size 54 3 (.slice A6 n6 c6) n6 (rows R3.vs (f r).1)) := by
          unfold Hid; rw [HW7.out]
          exact own_setCell HO6.out.2 (fun e => by have := (HO6.out.2.lt _ e.symm).1; have h9 := heap_lt HR5b.out.cmd; dsimp only at this; omega) _
        go_wp2_with fail
        rw [← HW7.out]
        clear p0 f0 p1 f1 p2 f2
        obtain ⟨⟨p0, f0⟩, ⟨p1, f1⟩, ⟨p2, f2⟩⟩ := HR7.out.cells
        obtain ⟨⟨r0, k0⟩, ⟨r1, k1⟩, ⟨r2, k2⟩⟩ := HR7.out.rcells
        obtain ⟨t0, t1, t2, HBF⟩ := HR7.out.fin
        have HBF' := Lib.hid HBF
        have HOF := Lib.hid (fin_own (k := 4) (a := z) (b := (n6 : Int)) HO7.out HO6.out.1)
        obtain ⟨ST, hST⟩ : ∃ ST : ByteArray, ST = ⟨(Lib.trimPrefix (f r).2 [41]).toArray⟩ := ⟨_, rfl⟩
        have HT : Hid (∀ W, Calls Tryd.prog 74 #[.string SB, .string ⟨#[41]⟩] W fun e w' => e = .returned (.string ST) ∧ W = w') := by
          intro W
          have := trimPrefixAny SB ⟨#[41]⟩ W
          rw [HSB.out] at this
          rw [hST]; exact this
        have HST : Hid (ST.data.toList = Lib.trimPrefix (f r).2 [41]) := by unfold Hid; rw [hST]
        clear HBF hST
        unfold finW at t0 t1 t2
        go_region_held3 (fun W => W.cell? ⟨w.heap.size + 1, 0, none⟩ = some (.int .i64 4) ∧ W.cell? ⟨w.heap.size + 1, 1, none⟩ = some (.int .i64 z) ∧ W.cell? ⟨w.heap.size + 1, 2, none⟩ = some (.int .i64 (n6 : Int))) (first | go_keep | exact ⟨p0, p1, p2⟩)
          ((first
            | (go_at_call 74; refine (HT.out _).mono ?_; rintro e w8 ⟨rfl, rfl⟩)))
        all_goals
          go_wp2_with fail
          refine bodyPost_ret (v := .tuple #[.agg #[.int .i64 4, .int .i64 z, .int .i64 (n6 : Int)], .slice A6 n6 c6, .string ST]) (by simp [results, Tryd.results38, go_sem, t0, t1, t2]) rfl ?_
          rw [HO.out]
          exact ⟨A6, n6, c6, ST, by show _ = Ending.returned (.tuple #[.agg #[.int .i64 4, .int .i64 z, .int .i64 (((f r).1.length : Nat) : Int)], .slice A6 n6 c6, .string ST]); rw [HN6.out], HN6.out, HST.out, own_below' HOF.out (Below.refl _ _).drew, HBF'.out.drew⟩
      | false =>
        have HO : Hid (otherI f l = (⟨4, -1, 0⟩, [], q)) := otherI_no hpair h1 h2 h3
        clear hz hq hpair hnl hs hl hE hfl hf
        go_enter Tryd.func38, Tryd.ntmps38
        go_wp2_with fail
        rw [← HW2.out]
        refine (HNUM.out _ (HEB.out _ HR2.out.frame)).mono ?_
        rintro e w3 ⟨⟨S1, rfl, hS1⟩, b3⟩
        have HR3 := Lib.hid (HR2.out.below b3)
        obtain ⟨⟨p0, f0⟩, ⟨p1, f1⟩, ⟨p2, f2⟩⟩ := HR3.out.cells
        have HC1 := Lib.hid (fun W => cutNo S1 q [61] hS1 h1 W)
        have HC2 := Lib.hid (fun W => cutNo S1 q [42, 40] hS1 h2 W)
        have HC3 := Lib.hid (fun W => cutNo S1 q [63, 40] hS1 h3 W)
        obtain ⟨w4, HW4⟩ : ∃ w4, Hid (w4 = w3.setCell ⟨w.heap.size + 1, 1, none⟩ (.int .i64 z)) := ⟨_, rfl⟩
        have HR4 : Hid (RoW w 0 z 0 w4) := by unfold Hid; rw [HW4.out]; exact HR3.out.setA z
        have HSS := Lib.hid hS1
        clear b3 hS1 h1 h2 h3
        go_wp2_with fail
        rw [← HW4.out]
        refine (HC1.out _).mono ?_
        rintro e w4' ⟨rfl, rfl⟩
        go_wp2_with fail
        refine (HC2.out _).mono ?_
        rintro e w4' ⟨rfl, rfl⟩
        clear p0 f0 p1 f1 p2 f2
        obtain ⟨⟨p0, f0⟩, ⟨p1, f1⟩, ⟨p2, f2⟩⟩ := HR4.out.cells
        obtain ⟨w5, HW5⟩ : ∃ w5, Hid (w5 = w4.setCell ⟨w.heap.size + 1, 0, none⟩ (.int .i64 3)) := ⟨_, rfl⟩
        have HR5 : Hid (RoW w 3 z 0 w5) := by unfold Hid; rw [HW5.out]; exact HR4.out.setK 3
        go_wp2_with fail
        rw [← HW5.out]
        refine (HC3.out _).mono ?_
        rintro e w5' ⟨rfl, rfl⟩
        clear p0 f0 p1 f1 p2 f2
        obtain ⟨⟨p0, f0⟩, ⟨p1, f1⟩, ⟨p2, f2⟩⟩ := HR5.out.cells
        have HR6 := Lib.hid (HR5.out.setK 4)
        obtain ⟨⟨g0, h0⟩, ⟨g1, h1⟩, ⟨g2, h2⟩⟩ := HR6.out.cells
        have HR7 := Lib.hid (HR6.out.setA (-1))
        obtain ⟨⟨m0, n0⟩, ⟨m1, n1⟩, ⟨m2, n2⟩⟩ := HR7.out.cells
        obtain ⟨⟨r0, k0⟩, ⟨r1, k1⟩, ⟨r2, k2⟩⟩ := HR7.out.rcells
        obtain ⟨t0, t1, t2, HBF⟩ := HR7.out.fin
        have HBF' := Lib.hid HBF
        clear HBF
        unfold finW at t0 t1 t2
        go_wp2_with fail
        refine bodyPost_ret (v := .tuple #[.agg #[.int .i64 4, .int .i64 (-1), .int .i64 0], .slice none 0 0, .string S1]) (by simp [results, Tryd.results38, go_sem, t0, t1, t2]) rfl ?_
        rw [HO.out]
        exact ⟨none, 0, 0, S1, rfl, rfl, HSS.out, World.ownsRow_nil _ _ _ _, HBF'.out⟩
end Go.Proofs.YtgcedfpjgdeakaaDoor

/- Commands read by the program: readLoops. -/
namespace Go.Proofs.YtgcedfpjgdeakaaDoor
open Go.RowKit
set_option linter.all false

theorem loopI_len (body : List UInt8 → List R3 × List UInt8) (B : Nat) (hb : ∀ S, (body S).1.length ≤ B) : ∀ (n : Nat) (ts : List R3) (S : List UInt8), ts.length ≤ 151 + B → (loopI body n ts S).1.length ≤ 151 + B := by
  have ho : ∀ S, (otherI body S).2.1.length ≤ B := by
    intro S
    unfold otherI
    split
    · simp
    · exact hb _
    · exact hb _
    · simp
  intro n
  induction n with
  | zero => intro ts S h; rw [loopI]; exact h
  | succ n ih =>
    intro ts S h
    cases S with
    | nil => rw [loopI]; exact h
    | cons b r =>
      rw [loopI]
      split
      · exact h
      · rename_i hc
        have h150 : ts.length ≤ 150 := by
          rcases Nat.lt_or_ge 150 ts.length with h1 | h1
          · exact absurd (.inr h1) hc
          · exact h1
        split
        · exact ih _ _ h
        split
        · split
          · show (ts ++ [_]).length ≤ _; rw [List.length_append, List.length_singleton]; omega
          · exact ih _ _ (by rw [List.length_append, List.length_singleton]; omega)
        split
        · split
          · show (ts ++ [_]).length ≤ _; rw [List.length_append, List.length_singleton]; omega
          · exact ih _ _ (by rw [List.length_append, List.length_singleton]; omega)
        · have := ho (b :: r)
          split
          · show (ts ++ [_] ++ _).length ≤ _; rw [List.length_append, List.length_append, List.length_singleton]; omega
          · exact ih _ _ (by rw [List.length_append, List.length_append, List.length_singleton]; omega)
theorem rdI_len : ∀ (d : Nat) (S : List UInt8), (rdI d S).1.length ≤ 151 * d := by
  intro d
  induction d with
  | zero => intro S; rw [rdI]; simp
  | succ d ih =>
    intro S
    rw [rdI]
    have := loopI_len (rdI d) (151 * d) ih S.length [] S (by simp)
    omega
theorem otherI_len (body : List UInt8 → List R3 × List UInt8) (B : Nat) (hb : ∀ S, (body S).1.length ≤ B) (S : List UInt8) : (otherI body S).2.1.length ≤ B := by
  unfold otherI
  split
  · simp
  · exact hb _
  · exact hb _
  · simp
theorem trimP_len (q p : List UInt8) : (Lib.trimPrefix q p).length ≤ q.length := by
  unfold Lib.trimPrefix
  split
  · rw [List.length_drop]; omega
  · exact Nat.le_refl _
/-- What is left behind is no longer. -/
theorem otherI_rest (body : List UInt8 → List R3 × List UInt8) (hb : ∀ S, (body S).2.length ≤ S.length) (S : List UInt8) : (otherI body S).2.2.length ≤ S.length ∧ (0 ≤ (otherI body S).1.b → (otherI body S).2.2.length < S.length) := by
  obtain ⟨q, hq⟩ : ∃ q, (numI S).2 = q := ⟨_, rfl⟩
  obtain ⟨z, hz⟩ : ∃ z, (numI S).1 = z := ⟨_, rfl⟩
  have hp : numI S = (z, q) := by rw [← hq, ← hz]
  have hl := numI_len S
  rw [hq, hz] at hl
  cases h1 : Lib.hasPrefix q [61] with
  | true =>
    obtain ⟨r, rfl⟩ := (hasP_61 q).1 h1
    have h2 := (numI_len r).1
    rw [List.length_cons] at hl
    rw [otherI_copy body hp (show numI r = ((numI r).1, (numI r).2) from rfl)]
    exact ⟨by show (numI r).2.length ≤ _; omega, fun _ => by show (numI r).2.length < _; omega⟩
  | false =>
    cases h2 : Lib.hasPrefix q [42, 40] with
    | true =>
      obtain ⟨r, rfl⟩ := (hasP_2 42 40 q).1 h2
      have h3 := hb r
      have h4 := trimP_len (body r).2 [41]
      rw [List.length_cons, List.length_cons] at hl
      rw [otherI_times body hp (show body r = ((body r).1, (body r).2) from rfl)]
      exact ⟨by show (Lib.trimPrefix (body r).2 [41]).length ≤ _; omega, fun _ => by show (Lib.trimPrefix (body r).2 [41]).length < _; omega⟩
    | false =>
      cases h3 : Lib.hasPrefix q [63, 40] with
      | true =>
        obtain ⟨r, rfl⟩ := (hasP_2 63 40 q).1 h3
        have h3 := hb r
        have h4 := trimP_len (body r).2 [41]
        rw [List.length_cons, List.length_cons] at hl
        rw [otherI_again body hp (show body r = ((body r).1, (body r).2) from rfl)]
        exact ⟨by show (Lib.trimPrefix (body r).2 [41]).length ≤ _; omega, fun _ => by show (Lib.trimPrefix (body r).2 [41]).length < _; omega⟩
      | false =>
        rw [otherI_no hp h1 h2 h3]
        exact ⟨hl.1, fun h => absurd h (by simp)⟩
theorem loopI_rest (body : List UInt8 → List R3 × List UInt8) (hb : ∀ S, (body S).2.length ≤ S.length) : ∀ (n : Nat) (ts : List R3) (S : List UInt8), (loopI body n ts S).2.length ≤ S.length := by
  intro n
  induction n with
  | zero => intro ts S; rw [loopI]; exact Nat.le_refl _
  | succ n ih =>
    intro ts S
    cases S with
    | nil => rw [loopI]; exact Nat.le_refl _
    | cons b r =>
      have h1 := (numI_len r).1
      have h2 := (otherI_rest body hb (b :: r)).1
      rw [loopI]
      split
      · exact Nat.le_refl _
      split
      · exact Nat.le_trans (ih _ _) (by rw [List.length_cons]; omega)
      split
      · split
        · show (numI r).2.length ≤ _; rw [List.length_cons]; omega
        · exact Nat.le_trans (ih _ _) (by rw [List.length_cons]; omega)
      split
      · split
        · show (numI r).2.length ≤ _; rw [List.length_cons]; omega
        · exact Nat.le_trans (ih _ _) (by rw [List.length_cons]; omega)
      · split
        · exact h2
        · exact Nat.le_trans (ih _ _) h2
theorem rdI_rest : ∀ (d : Nat) (S : List UInt8), (rdI d S).2.length ≤ S.length := by
  intro d
  induction d with
  | zero => intro S; rw [rdI]; exact Nat.le_refl _
  | succ d ih => intro S; rw [rdI]; exact loopI_rest _ ih _ _ _

def strSz : Value → Nat
  | .string s => s.size
  | _ => 0
theorem one_rows_R3' (t : List R3) : ∀ u ∈ rows R3.vs t, u.oneCell' = true := by
  intro u hu
  unfold rows at hu
  obtain ⟨x, _, hx⟩ := List.mem_flatMap.1 hu
  simp [R3.vs] at hx
  rcases hx with rfl | rfl | rfl <;> rfl
theorem loopI_nil (body : List UInt8 → List R3 × List UInt8) (n : Nat) (ts : List R3) : loopI body n ts [] = (ts, []) := by cases n <;> rw [loopI]
set_option maxRecDepth 100000 in
set_option maxHeartbeats 8000000 in
theorem readLoops_any : ∀ (d : Nat) (s : ByteArray) (l : List UInt8) (dep : Int) (w : World), s.data.toList = l → dep + d = 8 → d ≤ 8 ∧ l.length ≤ 1048576 → ErrAt w →
    Calls Tryd.prog 19 #[.string s, .int .i64 dep] w (RlPost (rdI d) l w) := by
  intro d
  induction d with
  | zero =>
    intro s l dep w hs hdep hl hE
    have h8 : ¬ dep ≤ 7 := by omega
    have HS := Lib.hid hs
    obtain ⟨wa, HWA, BA, xA⟩ := al1 w (.cells #[] 54)
    have HO : Hid (wa.ownsRow w.heap.size 54 3 (.slice (some ⟨w.heap.size, 0, none⟩) 0 0) 0 []) := by
      have := own_of_block (n := 0) (cap := 0) (s := 3) (xs := []) (base := w.heap.size) xA (Nat.le_refl _) rfl (Nat.le_refl _) (Nat.zero_le _)
      rw [List.take_nil] at this
      exact this
    have HBA := Lib.hid BA
    clear hs xA BA
    go_enter Tryd.func19, Tryd.ntmps19
    go_wp2_with fail
    rw [← HWA.out]
    go_loopw [0, 6] (fun q o wr => q = .string s ∧ o = .slice (some ⟨w.heap.size, 0, none⟩) 0 0 ∧ wr = wa) (fun _ _ _ => 0)
    case atStart => exact ⟨rfl, rfl, rfl⟩
    case round =>
      obtain ⟨rfl, rfl, rfl⟩ := hrel
      have hdd : decide (dep ≤ 7) = false := decide_eq_false (by omega)
      have FIN : RlPost (rdI 0) l w (.returned (.tuple #[.slice (some ⟨w.heap.size, 0, none⟩) 0 0, .string s])) wr := ⟨some ⟨w.heap.size, 0, none⟩, 0, 0, s, rfl, rfl, HS.out, HO.out, HBA.out⟩
      have HFI := Lib.hid FIN
      clear FIN
      cases hSr : s.data.toList with
      | nil =>
        have hne : s.toList.isEmpty = true := by rw [ByteArray.toList_eq, hSr]; rfl
        clear hSr
        go_wp2_with fail
        go_ret2
        exact HFI.out
      | cons L0 r =>
        have hne : s.toList.isEmpty = false := by rw [ByteArray.toList_eq, hSr]; rfl
        obtain ⟨h0s, hb0⟩ := str_at hSr (k := 0) rfl
        have h0I : (0 : Int) < (s.size : Int) := by omega
        by_cases h1 : L0 = 41
        · have hz41e : ((s[0].toNat : Int) == 41) = true := by rw [hb0, h1]; rfl
          have hz41 : ((s[0].toNat : Int) != 41) = false := by rw [bne, hz41e]; rfl
          clear hz41e
          clear hb0 hSr h1
          go_wp2_with fail
          go_ret2
          exact HFI.out
        · have hz41e : ((s[0].toNat : Int) == 41) = false := by rw [hb0, beq_eq_false_iff_ne]; intro e; exact h1 (UInt8.toNat_inj.1 (by have : (L0.toNat : Int) = 41 := e; show L0.toNat = 41; omega))
          have hz41 : ((s[0].toNat : Int) != 41) = true := by rw [bne, hz41e]; rfl
          clear hz41e
          have h8 : ¬ dep ≤ 7 := by omega
          have hl150 : ((0 : Nat) : Int) ≤ 150 := by decide
          clear hb0 hSr h1
          go_wp2_with fail
          go_ret2
          exact HFI.out
  | succ d ih =>
    intro s l dep w hs hdep hl hE
    have IH : Hid (∀ (s2 : ByteArray) (l2 : List UInt8) (dp : Int) (W : World), s2.data.toList = l2 → dp + d = 8 → l2.length ≤ 1048576 → ErrAt W → Calls Tryd.prog 19 #[.string s2, .int .i64 dp] W (RlPost (rdI d) l2 W)) := fun s2 l2 dp W h1 h2 h3 h4 => ih s2 l2 dp W h1 h2 ⟨by omega, h3⟩ h4
    have hdd : 0 ≤ dep ∧ dep ≤ 7 := by omega
    have hd7 : dep ≤ 7 := hdd.2
    obtain ⟨hd8, hl20⟩ := hl
    have HS0 := Lib.hid hs
    have HE := Lib.hid hE
    obtain ⟨wa, HWA, BA, xA⟩ := al1 w (.cells #[] 54)
    have HO0 : Hid (wa.ownsRow w.heap.size 54 3 (.slice (some ⟨w.heap.size, 0, none⟩) 0 0) 0 (rows R3.vs [])) := by
      have := own_of_block (n := 0) (cap := 0) (s := 3) (xs := []) (base := w.heap.size) xA (Nat.le_refl _) rfl (Nat.le_refl _) (Nat.zero_le _)
      rw [List.take_nil] at this
      exact this
    have HBA := Lib.hid BA
    clear hs xA BA ih hE
    go_enter Tryd.func19, Tryd.ntmps19
    go_wp2_with fail
    rw [← HWA.out]
    go_loopw [0, 6] (fun q o wr => ∃ (S : ByteArray) (n : Nat) (V : Value) (ts : List R3), V = o ∧ q = .string S ∧ S.data.toList.length ≤ n ∧ S.data.toList.length ≤ l.length ∧ Hid (loopI (rdI d) l.length [] l = loopI (rdI d) n ts S.data.toList) ∧ Hid (wr.ownsRow w.heap.size 54 3 V ts.length (rows R3.vs ts)) ∧ Hid (Below w.heap.size w wr) ∧ ts.length ≤ 6000) (fun q _ _ => strSz q)
    case atStart => exact ⟨s, l.length, _, [], rfl, rfl, by rw [HS0.out]; exact Nat.le_refl _, by rw [HS0.out]; exact Nat.le_refl _, by unfold Hid; rw [HS0.out], HO0, HBA, by simp⟩
    case round =>
      obtain ⟨S, n, V, ts, rfl, rfl, hSn, hSl, HLP, HO, HB, hts⟩ := hrel
      clear HO0 HBA HS0
      obtain ⟨lt, hlt⟩ : ∃ m, ts.length = m := ⟨_, rfl⟩
      have HLT := Lib.hid hlt
      have own := HO.out
      rw [hlt] at own hts
      obtain ⟨AV, cV, hAV⟩ := own_form own
      subst hAV
      clear hlt
      cases hSr : S.data.toList with
      | nil =>
        have hne : S.toList.isEmpty = true := by rw [ByteArray.toList_eq, hSr]; rfl
        have HFIN : Hid (loopI (rdI d) l.length [] l = (ts, [])) := by unfold Hid; rw [HLP.out, hSr, loopI_nil]
        have HSR := Lib.hid hSr
        have HOW := Lib.hid own
        clear hSr own hSn hSl
        go_wp2_with fail
        go_ret2
        exact ⟨AV, lt, cV, S, rfl, by rw [rdI, HFIN.out]; exact HLT.out, by rw [rdI, HFIN.out]; exact HSR.out, by rw [rdI, HFIN.out]; exact HOW.out, HB.out⟩
      | cons L0 r =>
        have hne : S.toList.isEmpty = false := by rw [ByteArray.toList_eq, hSr]; rfl
        obtain ⟨h0s, hb0⟩ := str_at hSr (k := 0) rfl
        have h0I : (0 : Int) < (S.size : Int) := by omega
        have h1I : (1 : Int) ≤ (S.size : Int) := by omega
        rw [hSr] at hSn hSl HLP
        rw [List.length_cons] at hSn hSl
        obtain ⟨n', hn'⟩ : ∃ n', n = n' + 1 := ⟨n - 1, by omega⟩
        have HNN := Lib.hid hn'
        have hrn : r.length ≤ n' := by omega
        obtain ⟨S1, hS1⟩ : ∃ S1, S.extract 1 S.size = S1 := ⟨_, rfl⟩
        have HS1 : Hid (S1.data.toList = r) := by unfold Hid; rw [← hS1, ex_drop S _ hSr 1]; rfl
        have HSZ : Hid (S.size = r.length + 1) := by unfold Hid; have := congrArg List.length hSr; rw [List.length_cons] at this; simpa using this
        have hslc : ∀ W, (Instr.slice 9 (.string S) (some (.int .i64 1)) none none).run Tryd.prog W = .ok (.string S1) W := by
          intro W
          rw [run_slice_string_l W _ S Tryd.underlying9 .i64 1 (by omega) h1I, ← hS1]
          rfl
        have hS1z : S1.size = r.length := by rw [← HS1.out]; simp
        clear hn' hS1
        have HSR := Lib.hid hSr
        by_cases h41 : L0 = 41 ∨ 150 < lt
        · have HFIN : Hid (loopI (rdI d) l.length [] l = (ts, L0 :: r)) := by
            unfold Hid
            rw [HLP.out, HNN.out, loopI, if_pos (by rw [HLT.out]; exact h41)]
          have HOW := Lib.hid own
          have FIN : RlPost (rdI (d + 1)) l w (.returned (.tuple #[.slice AV lt cV, .string S])) wr := ⟨AV, lt, cV, S, rfl, by rw [rdI, HFIN.out]; exact HLT.out, by rw [rdI, HFIN.out]; exact HSR.out, by rw [rdI, HFIN.out]; exact HOW.out, HB.out⟩
          have HFI := Lib.hid FIN
          by_cases h1 : L0 = 41
          · have hz41e : ((S[0].toNat : Int) == 41) = true := by rw [hb0, h1]; rfl
            have hz41 : ((S[0].toNat : Int) != 41) = false := by rw [bne, hz41e]; rfl
            clear hz41e
            clear own hb0 hSr h41 h1 FIN
            go_wp2_with fail
            go_ret2
            exact HFI.out
          · have hz41e : ((S[0].toNat : Int) == 41) = false := by rw [hb0, beq_eq_false_iff_ne]; intro e; exact h1 (UInt8.toNat_inj.1 (by have : (L0.toNat : Int) = 41 := e; show L0.toNat = 41; omega))
            have hz41 : ((S[0].toNat : Int) != 41) = true := by rw [bne, hz41e]; rfl
            clear hz41e
            have hl150 : ¬ (lt : Int) ≤ 150 := by have := h41.resolve_left h1; omega
            clear own hb0 hSr h41 h1 FIN
            go_wp2_with fail
            go_ret2
            exact HFI.out
        have hlt150 : lt ≤ 150 := by omega
        have hl150 : (lt : Int) ≤ 150 := by omega
        have h41 : L0 ≠ 41 := fun e => h41 (.inl e)
        have hts150 : ts.length ≤ 150 := by rw [HLT.out]; exact hlt150
        have hbr := True.intro
        by_cases h59 : L0 = 59
        · subst h59
          have hz59 : ((S[0].toNat : Int) == 59) = true := by rw [hb0]; rfl
          have hz41e : ((S[0].toNat : Int) == 41) = false := by rw [hb0]; rfl
          have hz41 : ((S[0].toNat : Int) != 41) = true := by rw [bne, hz41e]; rfl
          clear hz41e
          obtain ⟨w1, HW1, B1, x1⟩ := al1 wr (.cells #[.int .i64 0, .int .i64 0, .int .i64 0] 54)
          have HO1 : Hid (w1.ownsRow w.heap.size 54 3 (.slice AV lt cV) ts.length (rows R3.vs ts)) := by unfold Hid; rw [HLT.out]; exact own_below' own B1
          have HB1 := Lib.hid (below_step HB.out B1)
          have HLP1 : Hid (loopI (rdI d) l.length [] l = loopI (rdI d) n' ts r) := by unfold Hid; rw [HLP.out, HNN.out, loopI_semi _ _ hts150]
          clear own hb0 hSr B1 x1 h41
          go_wp2_with fail
          rw [← HW1.out]
          go_roundw
          case rel => exact ⟨S1, n', _, ts, rfl, rfl, by rw [HS1.out]; exact hrn, by rw [HS1.out]; omega, by rw [HS1.out]; exact HLP1, HO1, HB1, by omega⟩
          case measure => have := HSZ.out; simp only [strSz]; omega
        by_cases h33 : L0 = 33
        · have h := h33
          clear h59 h41
          have hb33 : L0 = 33 := h
          subst hb33
          have hz59 : ((S[0].toNat : Int) == 59) = false := by rw [hb0]; rfl
          have hz33 : ((S[0].toNat : Int) == 33) = true := by rw [hb0]; rfl

          have hz41e : ((S[0].toNat : Int) == 41) = false := by rw [hb0]; rfl
          have hz41 : ((S[0].toNat : Int) != 41) = true := by rw [bne, hz41e]; rfl
          clear hz41e
          obtain ⟨z, hz⟩ : ∃ z, (numI r).1 = z := ⟨_, rfl⟩
          obtain ⟨q, hq⟩ : ∃ q, (numI r).2 = q := ⟨_, rfl⟩
          have hnl := numI_len r
          have HNUM := Lib.hid (fun W (hW : ErrAt W) => numberAt_any S1 r HS1.out (by omega) W hW)
          rw [hz, hq] at HNUM hnl
          obtain ⟨w1, HW1, B1, x1⟩ := al1 wr (.cells #[.int .i64 0, .int .i64 0, .int .i64 0] 54)
          have HB1 := Lib.hid B1; have HX1 := Lib.hid x1
          have HST : Hid (∀ n2 ts2 : Nat, loopI (rdI d) (n2 + 1) ts (33 :: r) = if z < 0 then (ts ++ [⟨0, z, 0⟩], q) else loopI (rdI d) n2 (ts ++ [⟨0, z, 0⟩]) q) := by
            intro n2 _
            rw [← hz, ← hq, loopI, if_neg (by intro e; rcases e with e | e; exact absurd e (by decide); omega), if_neg (by decide), if_pos rfl]
          have HNL := Lib.hid hnl
          clear hz hq hnl B1 x1 hb0 hbr
          go_wp2_with fail
          rw [← HW1.out]
          refine (HNUM.out _ (HE.out.below (below_step HB.out HB1.out))).mono ?_
          rintro e w2 ⟨⟨S2, rfl, hS2⟩, b2⟩
          have HS2 := Lib.hid hS2
          have y2 := (b2.block _ (heap_lt HX1.out)).trans HX1.out
          have p1 : w2.cell? ⟨wr.heap.size, 1, none⟩ = some (.int .i64 0) := by rw [cell_of_heap y2]; rfl
          have f1 : w2.frozen? ⟨wr.heap.size, 1, none⟩ = false := frozen_of_heap y2
          obtain ⟨w3, HW3⟩ : ∃ w3, Hid (w3 = w2.setCell ⟨wr.heap.size, 1, none⟩ (.int .i64 z)) := ⟨_, rfl⟩
          have HY3 : Hid (w3.heap[wr.heap.size]? = some (.cells #[.int .i64 0, .int .i64 z, .int .i64 0] 54 (0, 0))) := by unfold Hid; rw [HW3.out]; exact heap_set y2 _
          have hbw3 : Below wr.heap.size wr w3 := by rw [HW3.out]; exact (below_step HB1.out b2).setCell (p := ⟨wr.heap.size, 1, none⟩) (Nat.le_refl _) _
          obtain ⟨w4, HW4, b4, x4⟩ := al1 w3 (.cells #[.int .i64 0, .int .i64 z, .int .i64 0] 54)
          have HBW := Lib.hid (below_step hbw3 b4)
          have own4 := own_below' own HBW.out
          have hbz := (below_step HB.out HBW.out).size
          have HNE : Hid (some wr.heap.size ≠ (Value.slice AV lt cV).ownBlock) := by unfold Hid; intro e; have := (own.lt _ e.symm).2; omega
          have hz3 : w3.heap.size = w2.heap.size := by rw [HW3.out]; simp
          have src4 : Src 3 w4 (.slice (some ⟨w2.heap.size, 0, none⟩) 1 1) 1 (rows R3.vs [⟨0, z, 0⟩]) := Src.of_own (own_of_block (n := 1) (cap := 1) (s := 3) (xs := [.int .i64 0, .int .i64 z, .int .i64 0]) (base := 0) (hz3 ▸ x4) (by omega) rfl (by omega) (by unfold maxLen; omega))
          have HY4 := Lib.hid ((b4.block _ (heap_lt HY3.out)).trans HY3.out)
          have g0 : w3.cell? ⟨wr.heap.size, 0, none⟩ = some (.int .i64 0) := by rw [cell_of_heap HY3.out]; rfl
          have g1 : w3.cell? ⟨wr.heap.size, 1, none⟩ = some (.int .i64 z) := by rw [cell_of_heap HY3.out]; rfl
          have g2 : w3.cell? ⟨wr.heap.size, 2, none⟩ = some (.int .i64 0) := by rw [cell_of_heap HY3.out]; rfl
          rw [HW3.out] at g0 g1 g2
          clear b2 hS2 y2 b4 x4 hbw3 own
          go_wp2_with (at_builtin; rw [← HW3.out, ← HW4.out]; refine wpList_appx rfl _ _ _ rfl Tryd.underlying22 infoLoop rfl (by omega) w.heap.size own4 hbz rfl src4 rfl (one_rows_R3' _) (by unfold maxLen; omega) (by omega) ?_; intro V5 w5 own5 hg5 hnil5; have y5 := grown_keep hg5 HY4.out HNE.out; have e1 : w5.cell? ⟨wr.heap.size, 1, none⟩ = some (.int .i64 z) := (by rw [cell_of_heap y5]; rfl); obtain ⟨A5, c5, rfl⟩ := own_form own5; have HB5 := Lib.hid (grown_below (below_step HB.out HBW.out) own4 (Nat.le_refl _) hg5); rw [← rows_app] at own5; have HO5 : Hid (w5.ownsRow w.heap.size 54 3 (.slice A5 (lt + 1) c5) (lt + 1) (rows R3.vs (ts ++ [⟨0, z, 0⟩]))) := own5; clear y5 own5 hg5 hnil5 src4 own4 g0 g1 g2; rcases Int.lt_or_le z 0 with hzn | hzn)
          · have hfin : loopI (rdI d) n ts (33 :: r) = (ts ++ [⟨0, z, 0⟩], q) := by rw [HNN.out, HST.out _ 0, if_pos hzn]
            have HFIN := Lib.hid hfin
            clear hfin
            go_wp2_with fail
            go_ret2
            exact ⟨A5, lt + 1, c5, S2, rfl, by rw [rdI, HLP.out, HFIN.out]; show (ts ++ [_]).length = _; rw [List.length_append, HLT.out]; rfl, by rw [rdI, HLP.out, HFIN.out]; exact HS2.out, by rw [rdI, HLP.out, HFIN.out]; exact HO5.out, HB5.out⟩
          · have hzz : ¬ z < 0 := by omega
            have HLP5 : Hid (loopI (rdI d) l.length [] l = loopI (rdI d) n' (ts ++ [⟨0, z, 0⟩]) q) := by unfold Hid; rw [HLP.out, HNN.out, HST.out _ 0, if_neg hzz]
            have hS2z : S2.size = q.length := by rw [← HS2.out]; simp
            go_wp2_with fail
            go_roundw
            case rel => exact ⟨S2, n', _, ts ++ [⟨0, z, 0⟩], rfl, rfl, by rw [HS2.out]; have := HNL.out.1; omega, by rw [HS2.out]; have := HNL.out.1; omega, by rw [HS2.out]; exact HLP5, by rw [List.length_append, HLT.out]; exact HO5, HB5, by rw [List.length_append, HLT.out]; show lt + 1 ≤ 6000; omega⟩
            case measure => have := HNL.out.1; have h9 := HSZ.out; simp only [strSz]; omega
        by_cases h43 : L0 = 43
        · have h := h43
          clear h59 h41 h33
          have hb43 : L0 = 43 := h
          subst hb43
          have hz59 : ((S[0].toNat : Int) == 59) = false := by rw [hb0]; rfl
          have hz33 : ((S[0].toNat : Int) == 33) = false := by rw [hb0]; rfl
          have hz43 : ((S[0].toNat : Int) == 43) = true := by rw [hb0]; rfl
          have hz41e : ((S[0].toNat : Int) == 41) = false := by rw [hb0]; rfl
          have hz41 : ((S[0].toNat : Int) != 41) = true := by rw [bne, hz41e]; rfl
          clear hz41e
          obtain ⟨z, hz⟩ : ∃ z, (numI r).1 = z := ⟨_, rfl⟩
          obtain ⟨q, hq⟩ : ∃ q, (numI r).2 = q := ⟨_, rfl⟩
          have hnl := numI_len r
          have HNUM := Lib.hid (fun W (hW : ErrAt W) => numberAt_any S1 r HS1.out (by omega) W hW)
          rw [hz, hq] at HNUM hnl
          obtain ⟨w1, HW1, B1, x1⟩ := al1 wr (.cells #[.int .i64 1, .int .i64 0, .int .i64 0] 54)
          have HB1 := Lib.hid B1; have HX1 := Lib.hid x1
          have HST : Hid (∀ n2 ts2 : Nat, loopI (rdI d) (n2 + 1) ts (43 :: r) = if z < 0 then (ts ++ [⟨1, z, 0⟩], q) else loopI (rdI d) n2 (ts ++ [⟨1, z, 0⟩]) q) := by
            intro n2 _
            rw [← hz, ← hq, loopI, if_neg (by intro e; rcases e with e | e; exact absurd e (by decide); omega), if_neg (by decide), if_neg (by decide), if_pos rfl]
          have HNL := Lib.hid hnl
          clear hz hq hnl B1 x1 hb0 hbr
          go_wp2_with fail
          rw [← HW1.out]
          refine (HNUM.out _ (HE.out.below (below_step HB.out HB1.out))).mono ?_
          rintro e w2 ⟨⟨S2, rfl, hS2⟩, b2⟩
          have HS2 := Lib.hid hS2
          have y2 := (b2.block _ (heap_lt HX1.out)).trans HX1.out
          have p1 : w2.cell? ⟨wr.heap.size, 1, none⟩ = some (.int .i64 0) := by rw [cell_of_heap y2]; rfl
          have f1 : w2.frozen? ⟨wr.heap.size, 1, none⟩ = false := frozen_of_heap y2
          obtain ⟨w3, HW3⟩ : ∃ w3, Hid (w3 = w2.setCell ⟨wr.heap.size, 1, none⟩ (.int .i64 z)) := ⟨_, rfl⟩
          have HY3 : Hid (w3.heap[wr.heap.size]? = some (.cells #[.int .i64 1, .int .i64 z, .int .i64 0] 54 (0, 0))) := by unfold Hid; rw [HW3.out]; exact heap_set y2 _
          have hbw3 : Below wr.heap.size wr w3 := by rw [HW3.out]; exact (below_step HB1.out b2).setCell (p := ⟨wr.heap.size, 1, none⟩) (Nat.le_refl _) _
          obtain ⟨w4, HW4, b4, x4⟩ := al1 w3 (.cells #[.int .i64 1, .int .i64 z, .int .i64 0] 54)
          have HBW := Lib.hid (below_step hbw3 b4)
          have own4 := own_below' own HBW.out
          have hbz := (below_step HB.out HBW.out).size
          have HNE : Hid (some wr.heap.size ≠ (Value.slice AV lt cV).ownBlock) := by unfold Hid; intro e; have := (own.lt _ e.symm).2; omega
          have hz3 : w3.heap.size = w2.heap.size := by rw [HW3.out]; simp
          have src4 : Src 3 w4 (.slice (some ⟨w2.heap.size, 0, none⟩) 1 1) 1 (rows R3.vs [⟨1, z, 0⟩]) := Src.of_own (own_of_block (n := 1) (cap := 1) (s := 3) (xs := [.int .i64 1, .int .i64 z, .int .i64 0]) (base := 0) (hz3 ▸ x4) (by omega) rfl (by omega) (by unfold maxLen; omega))
          have HY4 := Lib.hid ((b4.block _ (heap_lt HY3.out)).trans HY3.out)
          have g0 : w3.cell? ⟨wr.heap.size, 0, none⟩ = some (.int .i64 1) := by rw [cell_of_heap HY3.out]; rfl
          have g1 : w3.cell? ⟨wr.heap.size, 1, none⟩ = some (.int .i64 z) := by rw [cell_of_heap HY3.out]; rfl
          have g2 : w3.cell? ⟨wr.heap.size, 2, none⟩ = some (.int .i64 0) := by rw [cell_of_heap HY3.out]; rfl
          rw [HW3.out] at g0 g1 g2
          clear b2 hS2 y2 b4 x4 hbw3 own
          go_wp2_with (at_builtin; rw [← HW3.out, ← HW4.out]; refine wpList_appx rfl _ _ _ rfl Tryd.underlying22 infoLoop rfl (by omega) w.heap.size own4 hbz rfl src4 rfl (one_rows_R3' _) (by unfold maxLen; omega) (by omega) ?_; intro V5 w5 own5 hg5 hnil5; have y5 := grown_keep hg5 HY4.out HNE.out; have e1 : w5.cell? ⟨wr.heap.size, 1, none⟩ = some (.int .i64 z) := (by rw [cell_of_heap y5]; rfl); obtain ⟨A5, c5, rfl⟩ := own_form own5; have HB5 := Lib.hid (grown_below (below_step HB.out HBW.out) own4 (Nat.le_refl _) hg5); rw [← rows_app] at own5; have HO5 : Hid (w5.ownsRow w.heap.size 54 3 (.slice A5 (lt + 1) c5) (lt + 1) (rows R3.vs (ts ++ [⟨1, z, 0⟩]))) := own5; clear y5 own5 hg5 hnil5 src4 own4 g0 g1 g2; rcases Int.lt_or_le z 0 with hzn | hzn)
          · have hfin : loopI (rdI d) n ts (43 :: r) = (ts ++ [⟨1, z, 0⟩], q) := by rw [HNN.out, HST.out _ 0, if_pos hzn]
            have HFIN := Lib.hid hfin
            clear hfin
            go_wp2_with fail
            go_ret2
            exact ⟨A5, lt + 1, c5, S2, rfl, by rw [rdI, HLP.out, HFIN.out]; show (ts ++ [_]).length = _; rw [List.length_append, HLT.out]; rfl, by rw [rdI, HLP.out, HFIN.out]; exact HS2.out, by rw [rdI, HLP.out, HFIN.out]; exact HO5.out, HB5.out⟩
          · have hzz : ¬ z < 0 := by omega
            have HLP5 : Hid (loopI (rdI d) l.length [] l = loopI (rdI d) n' (ts ++ [⟨1, z, 0⟩]) q) := by unfold Hid; rw [HLP.out, HNN.out, HST.out _ 0, if_neg hzz]
            have hS2z : S2.size = q.length := by rw [← HS2.out]; simp
            go_wp2_with fail
            go_roundw
            case rel => exact ⟨S2, n', _, ts ++ [⟨1, z, 0⟩], rfl, rfl, by rw [HS2.out]; have := HNL.out.1; omega, by rw [HS2.out]; have := HNL.out.1; omega, by rw [HS2.out]; exact HLP5, by rw [List.length_append, HLT.out]; exact HO5, HB5, by rw [List.length_append, HLT.out]; show lt + 1 ≤ 6000; omega⟩
            case measure => have := HNL.out.1; have h9 := HSZ.out; simp only [strSz]; omega
        · skip
          have hz59 : ((S[0].toNat : Int) == 59) = false := by rw [hb0, beq_eq_false_iff_ne]; intro e; exact h59 (UInt8.toNat_inj.1 (by have : (L0.toNat : Int) = 59 := e; show L0.toNat = 59; omega))
          have hz33 : ((S[0].toNat : Int) == 33) = false := by rw [hb0, beq_eq_false_iff_ne]; intro e; exact h33 (UInt8.toNat_inj.1 (by have : (L0.toNat : Int) = 33 := e; show L0.toNat = 33; omega))
          have hz43 : ((S[0].toNat : Int) == 43) = false := by rw [hb0, beq_eq_false_iff_ne]; intro e; exact h43 (UInt8.toNat_inj.1 (by have : (L0.toNat : Int) = 43 := e; show L0.toNat = 43; omega))
          have hz41e : ((S[0].toNat : Int) == 41) = false := by rw [hb0, beq_eq_false_iff_ne]; intro e; exact h41 (UInt8.toNat_inj.1 (by have : (L0.toNat : Int) = 41 := e; show L0.toNat = 41; omega))
          have hz41 : ((S[0].toNat : Int) != 41) = true := by rw [bne, hz41e]; rfl
          clear hz41e
          obtain ⟨o, ho⟩ : ∃ o, otherI (rdI d) (L0 :: r) = o := ⟨_, rfl⟩
          have hor := otherI_rest (rdI d) (rdI_rest d) (L0 :: r)
          have hol := otherI_len (rdI d) (151 * d) (rdI_len d) (L0 :: r)
          rw [ho] at hor hol
          have HOT := Lib.hid (fun W (hW : ErrAt W) => readOther_any (rdI d) dep hdd S (L0 :: r) hSr (by rw [List.length_cons]; omega) W hW (fun T => by have := rdI_len d T; omega) (fun s2 l2 W2 h1 h2 h3 => IH.out s2 l2 (dep + 1) W2 h1 (by omega) (by rw [List.length_cons] at h2; omega) h3))
          rw [ho] at HOT
          have HST : Hid (∀ n2 ts2 : Nat, loopI (rdI d) (n2 + 1) ts (L0 :: r) = if o.1.b < 0 then (ts ++ [o.1] ++ o.2.1, o.2.2) else loopI (rdI d) n2 (ts ++ [o.1] ++ o.2.1) o.2.2) := by
            intro n2 _
            rw [← ho, loopI, if_neg (by intro e; rcases e with e | e; exact h41 e; omega), if_neg h59, if_neg h33, if_neg h43]
          obtain ⟨⟨ka, za, ba⟩, bd, q⟩ := o
          dsimp only at hor hol HST
          have HOR := Lib.hid hor; have HOL := Lib.hid hol
          obtain ⟨w1, HW1, B1, x1⟩ := al1 wr (.cells #[.int .i64 0, .int .i64 0, .int .i64 0] 54)
          have HB1 := Lib.hid B1; have HX1 := Lib.hid x1
          have hw1z : w1.heap.size = wr.heap.size + 1 := by rw [HW1.out]; simp
          have HWZ := Lib.hid hw1z
          clear ho hor hol B1 x1 hb0 hbr hw1z
          go_wp2_with fail
          rw [← HW1.out]
          refine (HOT.out _ (HE.out.below (below_step HB.out HB1.out))).mono ?_
          rintro e w2 ⟨A6, n6, c6, S2, rfl, hn6, hS2, own6, b2⟩
          dsimp only at hn6 hS2 own6
          have HS2 := Lib.hid hS2; have HN6 := Lib.hid hn6
          have y2 := (b2.block _ (heap_lt HX1.out)).trans HX1.out
          have f0 : w2.frozen? ⟨wr.heap.size, 0, none⟩ = false := frozen_of_heap y2
          have f1 : w2.frozen? ⟨wr.heap.size, 1, none⟩ = false := frozen_of_heap y2
          have f2 : w2.frozen? ⟨wr.heap.size, 2, none⟩ = false := frozen_of_heap y2
          have p0 : w2.cell? ⟨wr.heap.size, 0, none⟩ = some (.int .i64 0) := by rw [cell_of_heap y2]; rfl
          have p1 : w2.cell? ⟨wr.heap.size, 1, none⟩ = some (.int .i64 0) := by rw [cell_of_heap y2]; rfl
          have p2 : w2.cell? ⟨wr.heap.size, 2, none⟩ = some (.int .i64 0) := by rw [cell_of_heap y2]; rfl
          obtain ⟨w3, HW3⟩ : ∃ w3, Hid (w3 = ((w2.setCell ⟨wr.heap.size, 0, none⟩ (.int .i64 ka)).setCell ⟨wr.heap.size, 1, none⟩ (.int .i64 za)).setCell ⟨wr.heap.size, 2, none⟩ (.int .i64 ba)) := ⟨_, rfl⟩
          have HY3 : Hid (w3.heap[wr.heap.size]? = some (.cells #[.int .i64 ka, .int .i64 za, .int .i64 ba] 54 (0, 0))) := by unfold Hid; rw [HW3.out]; exact heap_set (heap_set (heap_set y2 (i := 0) (.int .i64 ka)) (i := 1) (.int .i64 za)) (i := 2) (.int .i64 ba)
          have hbw3 : Below wr.heap.size wr w3 := by rw [HW3.out]; exact ((((below_step HB1.out b2).setCell (p := ⟨wr.heap.size, 0, none⟩) (Nat.le_refl _) _)).setCell (p := ⟨wr.heap.size, 1, none⟩) (Nat.le_refl _) _).setCell (p := ⟨wr.heap.size, 2, none⟩) (Nat.le_refl _) _
          have hne6 : ∀ i : Nat, some (⟨wr.heap.size, i, none⟩ : Addr).block ≠ (Value.slice A6 n6 c6).ownBlock := fun i e => by
            have h9 := (own6.lt _ e.symm).1
            have := HWZ.out
            dsimp only at h9
            omega
          have own63 : w3.ownsRow w1.heap.size 54 3 (.slice A6 n6 c6) n6 (rows R3.vs bd) := by rw [HW3.out]; exact own_setCell (own_setCell (own_setCell own6 (hne6 0) _) (hne6 1) _) (hne6 2) _
          obtain ⟨w4, HW4, b4, x4⟩ := al1 w3 (.cells #[.int .i64 ka, .int .i64 za, .int .i64 ba] 54)
          have HBW := Lib.hid (below_step hbw3 b4)
          have own4 := own_below' own HBW.out
          have hbz := (below_step HB.out HBW.out).size
          have HNE : Hid (some wr.heap.size ≠ (Value.slice AV lt cV).ownBlock) := by unfold Hid; intro e; have := (own.lt _ e.symm).2; omega
          have hz3 : w3.heap.size = w2.heap.size := by rw [HW3.out]; simp
          have src4 : Src 3 w4 (.slice (some ⟨w2.heap.size, 0, none⟩) 1 1) 1 (rows R3.vs [⟨ka, za, ba⟩]) := Src.of_own (own_of_block (n := 1) (cap := 1) (s := 3) (xs := [.int .i64 ka, .int .i64 za, .int .i64 ba]) (base := 0) (hz3 ▸ x4) (by omega) rfl (by omega) (by unfold maxLen; omega))
          have HY4 := Lib.hid ((b4.block _ (heap_lt HY3.out)).trans HY3.out)
          have O64 := Lib.hid (own_below' own63 b4)
          have HAP6 : Hid ((Value.slice A6 n6 c6).ownBlock = none ∨ (Value.slice A6 n6 c6).ownBlock ≠ (Value.slice AV lt cV).ownBlock) := by
            cases hob : (Value.slice A6 n6 c6).ownBlock with
            | none => exact .inl rfl
            | some g =>
              refine .inr fun e => ?_
              have h1 := (own6.lt _ hob).1
              have h2 := (own.lt _ e.symm).2
              have := HWZ.out
              omega
          have g0 : w3.cell? ⟨wr.heap.size, 0, none⟩ = some (.int .i64 ka) := by rw [cell_of_heap HY3.out]; rfl
          have g1 : w3.cell? ⟨wr.heap.size, 1, none⟩ = some (.int .i64 za) := by rw [cell_of_heap HY3.out]; rfl
          have g2 : w3.cell? ⟨wr.heap.size, 2, none⟩ = some (.int .i64 ba) := by rw [cell_of_heap HY3.out]; rfl
          rw [HW3.out] at g0 g1 g2
          have hn9 : n6 ≤ 1400 := by have := HOL.out; omega
          have hw34 : wr.heap.size < w4.heap.size := heap_lt HY4.out
          clear b2 hS2 hn6 y2 b4 x4 hbw3 own own6 own63 hne6
          go_wp2_with (first
            | (at_builtin; rw [← HW3.out, ← HW4.out]; refine wpList_appy rfl _ _ _ rfl Tryd.underlying22 infoLoop rfl (by omega) w.heap.size own4 hbz rfl src4 rfl (one_rows_R3' _) (by unfold maxLen; omega) (by omega) ?_; intro V5 w5 own5 hg5 hl5; have HY5 := Lib.hid (grown_keep hg5 HY4.out HNE.out); have O65 := Lib.hid (O64.out.kept hg5 HAP6.out); obtain ⟨A5, c5, rfl⟩ := own_form own5; have HB5 := Lib.hid (grown_below (below_step HB.out HBW.out) own4 (Nat.le_refl _) hg5); rw [← rows_app] at own5; have HO5 : Hid (w5.ownsRow w.heap.size 54 3 (.slice A5 (lt + 1) c5) (lt + 1) (rows R3.vs (ts ++ [⟨ka, za, ba⟩]))) := own5; have HNE5 : Hid (some wr.heap.size ≠ (Value.slice A5 (lt + 1) c5).ownBlock) := (by unfold Hid; rcases hl5 with h1 | h1; (rw [h1]; exact HNE.out); (rw [h1]; intro e; injection e with e; omega)); have hown5 := HO5.out; have hbz5 := HB5.out.size; clear own5 hg5 hl5 src4 own4 g0 g1 g2)
            | (at_builtin; refine wpList_appx rfl _ _ _ rfl Tryd.underlying22 infoLoop rfl (by omega) w.heap.size hown5 hbz5 rfl (Src.of_own O65.out) rfl (one_rows_R3' _) (by unfold maxLen; omega) (by omega) ?_; intro V7 w7 own7 hg7 hnil7; have y7 := grown_keep hg7 HY5.out HNE5.out; have e1 : w7.cell? ⟨wr.heap.size, 1, none⟩ = some (.int .i64 za) := (by rw [cell_of_heap y7]; rfl); obtain ⟨A7, c7, rfl⟩ := own_form own7; have HB7 := Lib.hid (grown_below HB5.out hown5 (Nat.le_refl _) hg7); rw [← rows_app] at own7; have HO7 : Hid (w7.ownsRow w.heap.size 54 3 (.slice A7 (lt + 1 + n6) c7) (lt + 1 + n6) (rows R3.vs (ts ++ [⟨ka, za, ba⟩] ++ bd))) := own7; clear y7 own7 hg7 hnil7 hown5; rcases Int.lt_or_le za 0 with hzn | hzn))
          · have hfin : loopI (rdI d) n ts (L0 :: r) = (ts ++ [⟨ka, za, ba⟩] ++ bd, q) := by rw [HNN.out, HST.out _ 0, if_pos hzn]
            have HFIN := Lib.hid hfin
            clear hfin
            go_wp2_with fail
            go_ret2
            exact ⟨A7, lt + 1 + n6, c7, S2, rfl, by rw [rdI, HLP.out, HFIN.out]; show (ts ++ [_] ++ bd).length = _; rw [List.length_append, List.length_append, HLT.out, HN6.out]; rfl, by rw [rdI, HLP.out, HFIN.out]; exact HS2.out, by rw [rdI, HLP.out, HFIN.out]; exact HO7.out, HB7.out⟩
          · have hzz : ¬ za < 0 := by omega
            have HLP7 : Hid (loopI (rdI d) l.length [] l = loopI (rdI d) n' (ts ++ [⟨ka, za, ba⟩] ++ bd) q) := by unfold Hid; rw [HLP.out, HNN.out, HST.out _ 0, if_neg hzz]
            have hS2z : S2.size = q.length := by rw [← HS2.out]; simp
            have hql := HOR.out.2 hzn
            rw [List.length_cons] at hql
            go_wp2_with fail
            go_roundw
            case rel => exact ⟨S2, n', _, ts ++ [⟨ka, za, ba⟩] ++ bd, rfl, rfl, by rw [HS2.out]; omega, by rw [HS2.out]; omega, by rw [HS2.out]; exact HLP7, by rw [List.length_append, List.length_append, HLT.out, HN6.out]; exact HO7, HB7, by rw [List.length_append, List.length_append, HLT.out, HN6.out]; show lt + 1 + n6 ≤ 6000; omega⟩
            case measure => have h9 := HSZ.out; simp only [strSz]; omega
end Go.Proofs.YtgcedfpjgdeakaaDoor
