/- Loop programs of recursive functions, the program's side: command, zero, inc, assign, looped. -/
import Derived.Test.YtfmfpknigafnoaaConcatLoop
import Derived.Test.YtfmfpknigafnoaaLpSpec2
namespace Go.Proofs.Ytfmfpknigafnoaa
open Go.RowKit
set_option linter.all false

/-- One command, or some: a row of the call's own. -/
def CsOk (w : World) (n : Nat) (cs : List Value) (e : Ending) (w' : World) : Prop := (∃ v, e = .returned v ∧ w'.ownsRow w.heap.size 128 3 v n cs) ∧ Below w.heap.size w w'
set_option maxRecDepth 100000 in
theorem command_any (k a b : Int) (w : World) : Calls Try.prog 214 #[.int .i64 k, .int .i64 a, .int .i64 b] w (CsOk w 1 [.int .i64 k, .int .i64 a, .int .i64 b]) := by
  go_enter Try.func214, Try.ntmps214
  go_wp2
  go_ret
  exact ⟨⟨_, rfl, own_laid w 128 3 1 #[.int .i64 k, .int .i64 a, .int .i64 b] rfl (by simp [maxLen])⟩, laid_below _ _⟩
set_option maxRecDepth 100000 in
theorem zero_any (a : Int) (w : World) : Calls Try.prog 176 #[.int .i64 a] w (CsOk w 1 [.int .i64 0, .int .i64 a, .int .i64 0]) := by
  go_enter Try.func176, Try.ntmps176
  go_wp2_with fail
  refine (command_any 0 a 0 _).mono ?_
  rintro e w1 ⟨⟨v1, rfl, own1⟩, b1⟩
  obtain ⟨A1, c1, rfl⟩ := own_form own1
  go_wp2
  go_ret
  exact ⟨⟨_, rfl, own1⟩, b1⟩
set_option maxRecDepth 100000 in
theorem inc_any (a : Int) (w : World) : Calls Try.prog 178 #[.int .i64 a] w (CsOk w 1 [.int .i64 1, .int .i64 a, .int .i64 0]) := by
  go_enter Try.func178, Try.ntmps178
  go_wp2_with fail
  refine (command_any 1 a 0 _).mono ?_
  rintro e w1 ⟨⟨v1, rfl, own1⟩, b1⟩
  obtain ⟨A1, c1, rfl⟩ := own_form own1
  go_wp2
  go_ret
  exact ⟨⟨_, rfl, own1⟩, b1⟩
set_option maxRecDepth 100000 in
theorem assign_any (a b : Int) (w : World) : Calls Try.prog 177 #[.int .i64 a, .int .i64 b] w (CsOk w 1 [.int .i64 2, .int .i64 a, .int .i64 b]) := by
  go_enter Try.func177, Try.ntmps177
  go_wp2_with fail
  refine (command_any 2 a b _).mono ?_
  rintro e w1 ⟨⟨v1, rfl, own1⟩, b1⟩
  obtain ⟨A1, c1, rfl⟩ := own_form own1
  go_wp2
  go_ret
  exact ⟨⟨_, rfl, own1⟩, b1⟩
set_option maxRecDepth 100000 in
theorem sizeLoop_any (A : Option Addr) (n c : Nat) (w : World) (hn : n ≤ 1048576) : Calls Try.prog 216 #[.slice A n c] w fun e w' => e = .returned (.int .i64 n) ∧ w' = w := by
  go_enter Try.func216, Try.ntmps216
  go_wp2
  go_ret
  exact ⟨rfl, rfl⟩
theorem one_flatten {xss : List (List Value)} (h : ∀ xs ∈ xss, ∀ u ∈ xs, u.oneCell' = true) : ∀ u ∈ xss.flatten, u.oneCell' = true := by
  intro u hu
  obtain ⟨xs, h1, h2⟩ := List.mem_flatten.1 hu
  exact h xs h1 u h2
set_option maxRecDepth 100000 in
set_option maxHeartbeats 1000000 in
theorem looped_any (kd a : Int) (g off c : Nat) (vs : List Value) (ns : List Nat) (xss : List (List Value)) (m s : Nat) (w : World) (hs : Sl w g off vs) (hv : SrcsLoop w vs ns xss) (hm : m = ns.length) (hsm : s = ns.sum) (hs8 : s ≤ 10000) (hm8 : m ≤ 8) (h1 : ∀ u ∈ xss.flatten, u.oneCell' = true) :
    Calls Try.prog 180 #[.int .i64 kd, .int .i64 a, .slice (some ⟨g, off, none⟩) m c] w (CsOk w (1 + s) ([.int .i64 kd, .int .i64 a, .int .i64 s] ++ xss.flatten)) := by
  have HC := concatLoop_any g off c vs ns xss w hs hv (by omega) (by omega)
  rw [← hm, ← hsm] at HC
  have HC' := Lib.hid HC
  have HO := Lib.hid h1
  clear HC hs hv hm hsm h1
  go_enter Try.func180, Try.ntmps180
  go_wp2_with fail
  refine HC'.out.mono ?_
  rintro e w1 ⟨v1, rfl, own1, b1, _⟩
  obtain ⟨A1, c1, rfl⟩ := own_form own1
  go_wp2_with fail
  refine (sizeLoop_any A1 s c1 _ (by omega)).mono ?_
  rintro e w2 ⟨rfl, rfl⟩
  go_wp2_with fail
  refine (command_any kd a s _).mono ?_
  rintro e w3 ⟨⟨v3, rfl, own3⟩, b3⟩
  obtain ⟨A3, c3, rfl⟩ := own_form own3
  have src := Src.of_own (own_below' own1 b3)
  have hb := b1.size
  have B3 := below_step b1 b3
  go_wp2_with (at_builtin; refine wpList_appx rfl _ _ _ rfl Try.underlying59 infoLoop rfl (by omega) _ own3 b3.size rfl src rfl HO.out (by unfold maxLen; omega) (by omega) ?_; intro v4 w4 own4 hg4 hnil4; clear hnil4; have B4 := grown_below B3 own3 hb hg4; obtain ⟨A4, c4, rfl⟩ := own_form own4)
  go_ret
  exact ⟨⟨_, rfl, own_base own4 hb⟩, B4⟩
end Go.Proofs.Ytfmfpknigafnoaa
