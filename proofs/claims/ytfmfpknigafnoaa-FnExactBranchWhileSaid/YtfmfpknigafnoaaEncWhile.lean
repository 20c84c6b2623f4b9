/- EncloseWhile on both sides. -/
import Derived.Test.YtfmfpknigafnoaaSeqWhile
import Derived.Deep.RegionLaw
namespace Go.Proofs.Ytfmfpknigafnoaa
open Go.RowKit
set_option linter.all false

def encWhile (e : List R2) (b : List DCommand) : List DCommand × Int := if validE e = true ∧ validWhile b = true then fitW (⟨1, 0, b.length, e⟩ :: b) else ([], 1)
theorem encWhile_a {e : List R2} {b : List DCommand} (h : validE e = false) : encWhile e b = ([], 1) := by unfold encWhile; rw [if_neg (by rw [h]; simp)]
theorem encWhile_b {e : List R2} {b : List DCommand} (h : validWhile b = false) : encWhile e b = ([], 1) := by unfold encWhile; rw [if_neg (by rw [h]; simp)]
theorem encWhile_ok {e : List R2} {b : List DCommand} (h : validE e = true) (h2 : validWhile b = true) : encWhile e b = fitW (⟨1, 0, b.length, e⟩ :: b) := by unfold encWhile; rw [if_pos ⟨h, h2⟩]
theorem sumCommand_cons (x : DCommand) (b : List DCommand) : sumCommand (x :: b) = x.f3.length + sumCommand b := by simp [sumCommand, wlCommand]
theorem bndEncloseWhile0 (e : List R2) (b : List DCommand) (h1 : e.length ≤ 1048576) (h2 : b.length ≤ 1048576) (s2 : sumCommand b ≤ 1048576) : (encWhile e b).1.length ≤ 1048576 ∧ sumCommand (encWhile e b).1 ≤ 2097152 := by
  unfold encWhile
  split
  · exact fitW_le _ (by rw [sumCommand_cons]; simp only; omega)
  · exact ⟨by simp, by simp [sumCommand]⟩

set_option maxRecDepth 100000 in
theorem sizeOf_Command_any (A : Option Addr) (n c : Nat) (w : World) : Calls Try.prog 112 #[.slice A n c] w fun e w' => e = .returned (.int .i64 n) ∧ w = w' := by
  go_enter Try.func112, Try.ntmps112
  go_wp2
  go_ret
  exact ⟨rfl, rfl⟩

set_option maxRecDepth 100000 in
theorem enclosed_any (V : Value) (ne : Nat) (xe : List R2) (hV : ∃ A c, V = .slice A ne c) (A1 : Option Addr) (n1 c1 : Nat) (e1 : List ECommand) (w : World) (s1 : Src 4 w (.slice A1 n1 c1) n1 (rows ECommand.vs e1)) (r1 : RdsCommand w e1) (hn : n1 ≤ 1048576) :
    Calls Try.prog 71 #[V, .slice A1 n1 c1] w fun z w' => ∃ v, z = .returned v ∧ w'.ownsRow w.heap.size 87 4 v (1 + n1) (rows ECommand.vs ((⟨⟨1, 0, n1, xe⟩, V⟩ : ECommand) :: e1)) ∧ Below w.heap.size w w' := by
  obtain ⟨Ae, ce, rfl⟩ := hV
  have HI := Lib.hid infoCommand
  obtain ⟨w1, HW, B1, y1⟩ := al1 w (.cells #[.int .i64 1, .int .i64 0, .int .i64 n1, .slice Ae ne ce] 87)
  have own1 : w1.ownsRow w.heap.size 87 4 (.slice (some ⟨w.heap.size, 0, none⟩) 1 1) 1 [.int .i64 1, .int .i64 0, .int .i64 n1, .slice Ae ne ce] :=
    ⟨rfl, .inr ⟨w.heap.size, 1, #[.int .i64 1, .int .i64 0, .int .i64 n1, .slice Ae ne ce], rfl, Nat.le_refl _, y1, Nat.le_refl _, by simp [maxLen], rfl, rfl⟩⟩
  have src1 := s1.below B1
  have HO := Lib.hid (one_rows_Command r1)
  clear y1 s1 r1
  go_enter Try.func71, Try.ntmps71
  go_wp2_with fail
  refine (sizeOf_Command_any _ _ _ _).mono ?_
  rintro z w0 ⟨rfl, rfl⟩
  go_wp2_with (at_builtin; rw [← HW.out]; refine wpList_appx rfl _ _ _ rfl Try.underlying26 HI.out rfl (by omega) w.heap.size own1 B1.size rfl src1 rfl HO.out (by unfold maxLen; omega) (by omega) ?_; intro v2 w2 own2 hg2 hnil2; clear hnil2; obtain ⟨A2, c2, rfl⟩ := own_form own2; have B2 := grown_below B1 own1 (Nat.le_refl _) hg2; clear own1 src1 hg2 B1)
  go_ret
  exact ⟨_, rfl, own2, B2⟩

theorem own_cmd1 (w : World) (a b c : Int) (V : Value) (hV : ∃ A n k, V = .slice A n k) : (w.alloc (.cells #[.int .i64 a, .int .i64 b, .int .i64 c, V] 87)).ownsRow w.heap.size 87 4 (.slice (some ⟨w.heap.size, 0, none⟩) 1 1) 1 [.int .i64 a, .int .i64 b, .int .i64 c, V] :=
  ⟨rfl, .inr ⟨w.heap.size, 1, #[.int .i64 a, .int .i64 b, .int .i64 c, V], rfl, Nat.le_refl _, heap_alloc_new w _, Nat.le_refl _, by simp [maxLen], rfl, rfl⟩⟩
theorem encl_post {w w2 W w3 X w4 : World} {V V3 V4 R : Value} {n0 n1 n3 base : Nat} {x0 : List R2} {es3 : List ECommand} (hB2 : Below w.heap.size w w2) (hW : Below w2.heap.size w2 W) (hb3 : Below W.heap.size W w3) (hX : Below w3.heap.size w3 X)
    (IH : Inn 2 85 w.heap.size w2.heap.size [V] [(n0, rows R2.vs x0)] w2) (hx0 : x0.length = n0) (g3 : SGrid kndCommand W.heap.size w3.heap.size 87 85 2 V3 es3 w3) (hn : es3.length = n3) {cs : List Value} (ownR : X.ownsRow base 87 4 R 1 cs) (hbase : w2.heap.size ≤ base) (hg : X.grownBy w4 R.ownBlock)
    (hcs : cs = [.int .i64 1, .int .i64 0, .int .i64 n1, V]) (own4 : w4.ownsRow base 87 4 V4 (1 + n3) (cs ++ rows ECommand.vs es3)) :
    SGrid kndCommand w.heap.size w4.heap.size 87 85 2 V4 ((⟨⟨1, 0, n1, x0⟩, V⟩ : ECommand) :: es3) w4 ∧ Below w.heap.size w w4 := by
  subst hcs
  have hw2 : w.heap.size ≤ w2.heap.size := hB2.size
  have b23 : Below w2.heap.size w2 w3 := below_step hW hb3
  have b2X : Below w2.heap.size w2 X := below_step b23 hX
  have b24 := grown_below b2X ownR hbase hg
  refine ⟨⟨?_, ?_, fun q hq => (own4.lt q hq).2⟩, below_step hB2 b24⟩
  · rw [List.length_cons, hn, Nat.add_comm n3 1]
    exact own_base own4 (Nat.le_trans hw2 hbase)
  · have i1 := ((IH.below b2X).wide hW.size).append (g3.inn.below hX) (Nat.le_trans hw2 hW.size) hb3.size
    have i2 := (i1.kept ownR hg (by decide)).wide (Nat.le_trans hX.size hg.size)
    subst hx0
    exact i2

set_option maxRecDepth 100000 in
set_option maxHeartbeats 2000000 in
theorem l22Loop_any (b0 o0 n0 c0 : Nat) (x0 : List R2) (A1 : Option Addr) (n1 c1 : Nat) (e1 : List ECommand) (w : World) (s0 : Sl w b0 o0 (rows R2.vs x0)) (h0 : x0.length = n0) (hn0 : n0 ≤ 1048576) (a1 : Args 4 w A1 n1 (rows ECommand.vs e1)) (r1 : RdsCommand w e1) (hf : Full e1) (hl1 : e1.length = n1) (hn1 : n1 ≤ 1048576) (t1 : sumCommand (e1.map (·.d)) ≤ 1048576) :
    Calls Try.prog 59 #[.slice (some ⟨b0, o0, none⟩) n0 c0, .slice A1 n1 c1] w fun z w' => ∃ A c es', z = .returned (.slice A (1 + n1) c) ∧ SGrid kndCommand w.heap.size w'.heap.size 87 85 2 (.slice A (1 + n1) c) es' w' ∧ es'.map (·.d) = ⟨1, 0, n1, x0⟩ :: e1.map (·.d) ∧ Below w.heap.size w w' := by
  have H0 := Lib.hid h0; have HL1 := Lib.hid hl1; clear h0 hl1
  have HI := Lib.hid infoCommand
  have HI2 := Lib.hid infoExprW
  have HONE : Hid (∀ u ∈ rows R2.vs x0, u.oneCell' = true) := one_rows_Expr x0
  have ownE := own_empty w 85 2
  have B0 := laid_below w (.cells #[] 85)
  have src : Src 2 (w.alloc (.cells #[] 85)) (.slice (some ⟨b0, o0, none⟩) n0 c0) n0 (rows R2.vs x0) := Src.of_sl (s0.below' B0) (by rw [rows_len R2.vs_len, H0.out])
  have HO : Hid (∀ W, Below w.heap.size w W → Calls Try.prog 104 #[.slice A1 n1 c1] W fun z w' => (∃ v es', z = .returned v ∧ SGrid kndCommand W.heap.size w'.heap.size 87 85 2 v es' w' ∧ es'.map (·.d) = e1.map (·.d)) ∧ Below W.heap.size W w') :=
    fun W hb => l22Own_any A1 n1 c1 e1 W (a1.below hb) (r1.below hb) hf hn1 t1
  clear s0 a1 r1 hf t1
  go_enter Try.func59, Try.ntmps59
  go_wp2_with (at_builtin; refine wpList_appx rfl _ _ _ rfl Try.underlying29 HI2.out rfl (by omega) w.heap.size ownE B0.size rfl src rfl HONE.out (by unfold maxLen; omega) (by omega) ?_; intro v1 w1 own1 hg1 hnil1; clear hnil1; rw [Nat.zero_add, List.nil_append] at own1; obtain ⟨A', c', rfl⟩ := own_form own1; have B1 := grown_below B0 ownE (Nat.le_refl _) hg1; clear ownE src hg1 B0)
  obtain ⟨w2, HW2, B12, y2⟩ := al1 w1 (.cells #[.int .i64 1, .int .i64 0, .int .i64 n1, .slice A' n0 c'] 87)
  have B2 := below_step B1 B12
  have IH := Lib.hid (((Inn.nil 2 w.heap.size w.heap.size 85 w1).snoc (it := (n0, rows R2.vs x0)) own1 (Nat.le_refl _) (Nat.le_refl _) (Nat.le_refl _) B1.size).below B12 |>.wide B12.size)
  rw [List.nil_append, List.nil_append] at IH
  have k0 : w2.cell? ⟨w1.heap.size, 0, none⟩ = some (.int .i64 1) := by rw [cell_of_heap y2]; rfl
  have k1 : w2.cell? ⟨w1.heap.size, 1, none⟩ = some (.int .i64 0) := by rw [cell_of_heap y2]; rfl
  have k2 : w2.cell? ⟨w1.heap.size, 2, none⟩ = some (.int .i64 n1) := by rw [cell_of_heap y2]; rfl
  have k3 : w2.cell? ⟨w1.heap.size, 3, none⟩ = some (.slice A' n0 c') := by rw [cell_of_heap y2]; rfl
  have HB2 := Lib.hid B2
  clear y2 own1 B1 B12 B2
  rw [← HW2.out]
  go_region_law ((first
      | (refine step_appx (by rfl) _ _ _ (by rfl) Try.underlying26 HI.out rfl (by omega) _ own3 hb3 (by rfl) src3 (by rfl) HO3.out (by unfold maxLen; omega) (by omega) ?_; intro v4 w4 own4 hg4 hnil4; clear hnil4; obtain ⟨A4, c4, rfl⟩ := own_form own4; have GB := Lib.hid (encl_post (w3 := w3) HB2.out HWX.out HB3.out HXX.out IH.out H0.out G3.out L3.out own3 hw23 hg4 rfl own4))
      | (go_simp; go_at_call 104; refine (HO.out _ (below_step HB2.out (Below.refl w2.heap.size w2).drew)).mono ?_; rintro z w3 ⟨⟨v3, es3, rfl, g3, d3⟩, b3⟩; obtain ⟨A3, c3, rfl⟩ := own_form g3.own; have HD3 := Lib.hid d3; have L3 : Hid (es3.length = n1) := (by have := congrArg List.length HD3.out; rw [List.length_map, List.length_map, HL1.out] at this; exact this); rw [L3.out]; have G3 := Lib.hid g3; clear d3 g3; have own3 : (w3.alloc (.cells #[.int .i64 1, .int .i64 0, .int .i64 n1, .slice A' n0 c'] 87)).ownsRow w3.heap.size 87 4 (.slice (some ⟨w3.heap.size, 0, none⟩) 1 1) 1 [.int .i64 1, .int .i64 0, .int .i64 n1, .slice A' n0 c'] := own_cmd1 w3 1 0 n1 (.slice A' n0 c') ⟨_, _, _, rfl⟩; have HO3 := Lib.hid (one_rows_Command (rdsCommand_of G3.out)); have src3 : Src 4 (w3.alloc (.cells #[.int .i64 1, .int .i64 0, .int .i64 n1, .slice A' n0 c'] 87)) (.slice A3 n1 c3) n1 (rows ECommand.vs es3) := (by have := (Src.of_own G3.out.own).below (laid_below w3 (.cells #[.int .i64 1, .int .i64 0, .int .i64 n1, .slice A' n0 c'] 87)); rw [L3.out] at this; exact this); have hb3 : w3.heap.size ≤ (w3.alloc (.cells #[.int .i64 1, .int .i64 0, .int .i64 n1, .slice A' n0 c'] 87)).heap.size := (laid_below w3 _).size; have hw23 : w2.heap.size ≤ w3.heap.size := b3.size; have m0 := cell_step (by exact k0) b3; have m1 := cell_step (by exact k1) b3; have m2 := cell_step (by exact k2) b3; have m3 := cell_step (by exact k3) b3; have HB3 := Lib.hid b3; have HWX := Lib.hid (Below.refl w2.heap.size w2).drew; have HXX := Lib.hid (laid_below w3 (.cells #[.int .i64 1, .int .i64 0, .int .i64 n1, .slice A' n0 c'] 87)); clear b3)
      | (go_simp; go_at_call 104; have hWX := (laid_below w2 (.cells #[.int .i64 1, .int .i64 0, .int .i64 n1, .slice A' n0 c'] 87)).drew; refine (HO.out _ (below_step HB2.out hWX)).mono ?_; rintro z w3 ⟨⟨v3, es3, rfl, g3, d3⟩, b3⟩; obtain ⟨A3, c3, rfl⟩ := own_form g3.own; have HD3 := Lib.hid d3; have L3 : Hid (es3.length = n1) := (by have := congrArg List.length HD3.out; rw [List.length_map, List.length_map, HL1.out] at this; exact this); rw [L3.out]; have G3 := Lib.hid g3; clear d3 g3; have own3 : w3.ownsRow w2.heap.size 87 4 (.slice (some ⟨w2.heap.size, 0, none⟩) 1 1) 1 [.int .i64 1, .int .i64 0, .int .i64 n1, .slice A' n0 c'] := own_below' (own_below' (own_cmd1 w2 1 0 n1 (.slice A' n0 c') ⟨_, _, _, rfl⟩) (Below.refl _ _).drew) b3; have HO3 := Lib.hid (one_rows_Command (rdsCommand_of G3.out)); have src3 : Src 4 w3 (.slice A3 n1 c3) n1 (rows ECommand.vs es3) := (by have := Src.of_own G3.out.own; rw [L3.out] at this; exact this); have hb3 : w2.heap.size ≤ w3.heap.size := Nat.le_trans hWX.size b3.size; have hw23 := Nat.le_refl w2.heap.size; have HB3 := Lib.hid b3; have HWX := Lib.hid hWX; have HXX := Lib.hid (Below.refl w3.heap.size w3); clear b3 hWX)))
  all_goals
    go_wp2
    go_ret
    exact ⟨_, _, _, rfl, GB.out.1, by rw [List.map_cons, HD3.out], GB.out.2⟩

end Go.Proofs.Ytfmfpknigafnoaa
