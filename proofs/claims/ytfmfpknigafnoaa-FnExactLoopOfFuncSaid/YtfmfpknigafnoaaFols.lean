/- Recursive functions, the program's side: followers, funcEnd, isFunc, ValidFunc. -/
import Derived.Test.YtfmfpknigafnoaaFNode
import Derived.Test.YtfmfpknigafnoaaRepeatInt
import Derived.Test.YtfmfpknigafnoaaFacts
import Derived.Test.YtfmfpknigafnoaaSeqFunc
import Derived.Test.YtfmfpknigafnoaaSGrid
namespace Go.Proofs.Ytfmfpknigafnoaa
open Go.RowKit
set_option linter.all false

theorem fFols_rep (b : Int) (k : Nat) (c : Int) (h : c = (k : Int)) : (fFols ⟨3, b, c⟩).map (Value.int .i64) = [Value.int .i64 c] ++ rows oneI (List.replicate k b) := by
  rw [fFols_3 rfl, rows_oneI]; subst h; simp

def Fols3Ok (b : Int) (k : Nat) (w : World) (e : Ending) (w' : World) : Prop := (∃ A c', e = .returned (.slice A (1 + k) c') ∧ Args 1 w' A (1 + k) ([Value.int .i64 k] ++ rows oneI (List.replicate k b))) ∧ Below w.heap.size w w'
set_option maxRecDepth 100000 in
set_option maxHeartbeats 1000000 in
theorem followers3_any (b : Int) (k : Nat) (w : World) (hk : 1 ≤ k) (hk4 : k ≤ 4) :
    Calls Try.prog 213 #[.agg #[.int .i64 3, .int .i64 b, .int .i64 k]] w (Fols3Ok b k w) := by
  obtain ⟨w0, HW0, B0, y0⟩ := al1 w (.cells #[.int .i64 3, .int .i64 b, .int .i64 k] 115)
  have n1 : w0.cell? ⟨w.heap.size, 1, none⟩ = some (.int .i64 b) := by rw [cell_of_heap y0]; rfl
  have n2 : w0.cell? ⟨w.heap.size, 2, none⟩ = some (.int .i64 k) := by rw [cell_of_heap y0]; rfl
  clear y0
  go_enter Try.func213, Try.ntmps213
  go_wp2_with fail
  rw [← HW0.out]
  refine region_facts (by kernel_rfl) [kcst (.pointer (some ⟨w.heap.size, 2, none⟩)), kcst (.int .i64 k), ksl 1 [.int .i64 k], kcst (.pointer (some ⟨w.heap.size, 1, none⟩)), kcst (.int .i64 b), ksl 1 (rows oneI [b]), kcst (.pointer (some ⟨w.heap.size, 2, none⟩)), kcst (.int .i64 k), karg 1 k (rows oneI (List.replicate k b)), karg 1 (1 + k) ([Value.int .i64 k] ++ rows oneI (List.replicate k b)), karg 1 (1 + k) ([Value.int .i64 k] ++ rows oneI (List.replicate k b))] [7, 8, 9, 10, 11, 12, 13, 14, 15, 16, 2] (by kernel_rfl) ?_ ?_
  · refine ⟨?_, ?_, ?_, ?_, ?_, ?_, ?_, ?_, ?_, ?_, ?_, trivial⟩
    · intro a W hB hin haft K hK
      have h1 : a.tmps[1]?.getD undef = .pointer (some ⟨w.heap.size, 0, none⟩) := kev (hin 1 (by decide))
      clear haft hin
      unfold Oper.wp
      go_simp
      exact hK _ _ rfl (Below.refl _ _)
    · intro a W hB hin haft K hK
      have h7 : a.tmps[7]?.getD undef = .pointer (some ⟨w.heap.size, 2, none⟩) := kev (haft ⟨0, .data⟩ (by simp) rfl 7 rfl)
      have k1 := cell_step (by exact n2) hB
      clear haft hin
      unfold Oper.wp
      go_simp
      exact hK _ _ rfl (Below.refl _ _)
    · intro a W hB hin haft K hK
      have h8 : a.tmps[8]?.getD undef = .int .i64 k := kev (haft ⟨1, .data⟩ (by simp) rfl 8 rfl)
      clear haft hin
      unfold Oper.wp
      go_simp
      exact hK _ _ ⟨_, rfl, sl_laid W _ _⟩ (laid_below _ _)
    · intro a W hB hin haft K hK
      have h1 : a.tmps[1]?.getD undef = .pointer (some ⟨w.heap.size, 0, none⟩) := kev (hin 1 (by decide))
      clear haft hin
      unfold Oper.wp
      go_simp
      exact hK _ _ rfl (Below.refl _ _)
    · intro a W hB hin haft K hK
      have h10 : a.tmps[10]?.getD undef = .pointer (some ⟨w.heap.size, 1, none⟩) := kev (haft ⟨3, .data⟩ (by simp) rfl 10 rfl)
      have k1 := cell_step (by exact n1) hB
      clear haft hin
      unfold Oper.wp
      go_simp
      exact hK _ _ rfl (Below.refl _ _)
    · intro a W hB hin haft K hK
      have h11 : a.tmps[11]?.getD undef = .int .i64 b := kev (haft ⟨4, .data⟩ (by simp) rfl 11 rfl)
      clear haft hin
      unfold Oper.wp
      go_simp
      exact hK _ _ ⟨_, rfl, sl_laid W _ _⟩ (laid_below _ _)
    · intro a W hB hin haft K hK
      have h1 : a.tmps[1]?.getD undef = .pointer (some ⟨w.heap.size, 0, none⟩) := kev (hin 1 (by decide))
      clear haft hin
      unfold Oper.wp
      go_simp
      exact hK _ _ rfl (Below.refl _ _)
    · intro a W hB hin haft K hK
      have h13 : a.tmps[13]?.getD undef = .pointer (some ⟨w.heap.size, 2, none⟩) := kev (haft ⟨6, .data⟩ (by simp) rfl 13 rfl)
      have k1 := cell_step (by exact n2) hB
      clear haft hin
      unfold Oper.wp
      go_simp
      exact hK _ _ rfl (Below.refl _ _)
    · intro a W hB hin haft K hK
      obtain ⟨g, hg, hsl⟩ := haft ⟨5, .data⟩ (by simp) rfl 12 rfl
      have h12 := kev hg
      have h14 : a.tmps[14]?.getD undef = .int .i64 k := kev (haft ⟨7, .data⟩ (by simp) rfl 14 rfl)
      clear hg
      clear haft hin
      unfold Oper.wp
      go_simp
      refine (repeatInt_any g 0 1 k b _ hsl (by omega)).mono ?_
      rintro z w' ⟨v, rfl, own, hb⟩
      obtain ⟨A, c', rfl⟩ := own_form own
      exact hK _ _ ⟨A, c', rfl, args_of_own own⟩ hb
    · intro a W hB hin haft K hK
      obtain ⟨g, hg, hsl⟩ := haft ⟨2, .data⟩ (by simp) rfl 9 rfl
      obtain ⟨A, c', hx, hA⟩ := haft ⟨8, .data⟩ (by simp) rfl 15 rfl
      obtain ⟨b2, o2, rfl, hs2⟩ := hA.sl (k := 0) (by omega)
      refine op_append _ _ _ rfl Try.underlying176 infoInt64S rfl (by omega) hg hsl rfl hx hs2 hA.1 (one_rows_Int _) (by unfold maxLen; omega) (by omega) ?_
      intro A3 c3 w' hA3 hb
      exact hK _ _ ⟨A3, c3, rfl, hA3⟩ hb
    · intro a W hB hin haft K hK
      obtain ⟨A, c', hx, hA⟩ := haft ⟨9, .data⟩ (by simp) rfl 16 rfl
      have h16 := kev hx
      clear hx
      clear haft hin
      unfold Oper.wp
      go_simp
      exact hK _ _ ⟨A, c', rfl, hA⟩ (Below.refl _ _)
  · intro a W hB hdf hsz hin hf
    obtain ⟨A, c', hx, hA⟩ := hf 10 2 rfl
    have h2 := kev hx
    clear hin hf hx
    go_wp2
    refine bodyPost_ret (v := .slice A (1 + k) c') (by simp [results, Try.results213, go_sem, h2]) hdf ?_
    exact ⟨⟨A, c', rfl, hA⟩, below_step B0 hB⟩

/-- What followers gives. -/
def FolsOk (x : R3) (w : World) (e : Ending) (w' : World) : Prop := (∃ A c', e = .returned (.slice A (fMany x) c') ∧ Args 1 w' A (fMany x) ((fFols x).map (Value.int .i64))) ∧ Below w.heap.size w w'

set_option maxRecDepth 100000 in
set_option maxHeartbeats 1000000 in
theorem followers_any (x : R3) (hok : fOkN x = true) (w : World) :
    Calls Try.prog 213 #[.agg #[.int .i64 x.a, .int .i64 x.b, .int .i64 x.c]] w (FolsOk x w) := by
  have hx := (fOkN_iff x).1 hok
  obtain ⟨a, b, c⟩ := x
  simp only at hx ⊢
  by_cases a3 : a = 3
  · subst a3
    obtain ⟨k, hk⟩ : ∃ k : Nat, c = (k : Int) := ⟨c.toNat, by omega⟩
    subst hk
    refine (followers3_any b k w (by omega) (by omega)).mono ?_
    rintro e w' ⟨⟨A, c', rfl, hA⟩, hb⟩
    have hm : fMany ⟨3, b, (k : Int)⟩ = 1 + k := by rw [fMany_3 rfl]; simp only; omega
    exact ⟨⟨A, c', by rw [hm], by rw [hm, fFols_rep b k _ rfl]; exact hA⟩, hb⟩
  have e3 : (a == 3) = false := by simpa using a3
  obtain ⟨w0, HW0, B0, y0⟩ := al1 w (.cells #[.int .i64 a, .int .i64 b, .int .i64 c] 115)
  have B1 := HW0.out ▸ B0
  clear HW0 y0
  by_cases a4 : a = 4
  · subst a4
    have hm : fMany ⟨4, b, c⟩ = 2 := fMany_4 rfl
    have hf : (fFols ⟨4, b, c⟩).map (Value.int .i64) = [.int .i64 (b - 1), .int .i64 (b + 1)] := by rw [fFols_4 rfl]; rfl
    have HM := Lib.hid hm; have HF := Lib.hid hf
    have hb1 : 1 ≤ b := by omega
    have hb3 : b ≤ 3 := by omega
    clear hm hf hx hok a3
    go_enter Try.func213, Try.ntmps213
    go_wp2
    go_ret
    refine ⟨⟨some ⟨w.heap.size + 1, 0, none⟩, 2, by rw [HM.out]; rfl, ?_⟩, below_step B1 (laid_below _ _)⟩
    rw [HM.out, HF.out]
    exact Args.of_sl (b := w.heap.size + 1) (by have := sl_laid (w.alloc (.cells #[.int .i64 4, .int .i64 b, .int .i64 c] 115)) #[.int .i64 (b - 1), .int .i64 (b + 1)] 2; simpa using this) rfl
  by_cases a5 : a = 5
  · subst a5
    have hm : fMany ⟨5, b, c⟩ = 1 := fMany_5 rfl
    have hf : (fFols ⟨5, b, c⟩).map (Value.int .i64) = [.int .i64 (b + 1)] := by rw [fFols_5 rfl]; rfl
    have HM := Lib.hid hm; have HF := Lib.hid hf
    have hb1 : 0 ≤ b := by omega
    have hb3 : b ≤ 3 := by omega
    clear hm hf hx hok a3 a4
    go_enter Try.func213, Try.ntmps213
    go_wp2
    go_ret
    refine ⟨⟨some ⟨w.heap.size + 1, 0, none⟩, 1, by rw [HM.out]; rfl, ?_⟩, below_step B1 (laid_below _ _)⟩
    rw [HM.out, HF.out]
    exact Args.of_sl (b := w.heap.size + 1) (by have := sl_laid (w.alloc (.cells #[.int .i64 5, .int .i64 b, .int .i64 c] 115)) #[.int .i64 (b + 1)] 2; simpa using this) rfl
  have hm : fMany ⟨a, b, c⟩ = 0 := fMany_0 a3 a4 a5
  have hf : fFols ⟨a, b, c⟩ = [] := fFols_0 a3 a4 a5
  have HM := Lib.hid hm; have HF := Lib.hid hf
  have e4 : (a == 4) = false := by simpa using a4
  have e5 : (a == 5) = false := by simpa using a5
  clear hm hf hx hok a3 a4 a5
  go_enter Try.func213, Try.ntmps213
  go_wp2
  go_ret
  refine ⟨⟨none, 0, by rw [HM.out]; rfl, ?_⟩, B1⟩
  rw [HM.out, HF.out]
  exact Args.of_nil _ _ _
end Go.Proofs.Ytfmfpknigafnoaa
