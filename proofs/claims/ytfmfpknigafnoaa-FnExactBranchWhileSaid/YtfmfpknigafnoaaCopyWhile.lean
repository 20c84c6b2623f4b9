/- The program's copies of while programs: copyWhile, mapped, shortWhile. -/
import Derived.Test.YtfmfpknigafnoaaWhilePlain
import Derived.Test.YtfmfpknigafnoaaSeqExpr
namespace Go.Proofs.Ytfmfpknigafnoaa
open Go.RowKit
set_option linter.all false

/-- No command without a value. -/
def Full (es : List ECommand) : Prop := ∀ e ∈ es, 1 ≤ e.d.f3.length
theorem validE_pos {xs : List R2} (h : validE xs = true) : 1 ≤ xs.length ∧ xs.length ≤ 40 := by
  unfold validE at h
  rw [Bool.and_eq_true] at h
  have := (inB_iff _ _ _).1 h.1
  omega
theorem validCs_all : ∀ (n : Nat) (xs : List DCommand), xs.length = n → validCs xs = true → ∀ x ∈ xs, validE x.f3 = true := by
  intro n
  induction n using Nat.strongRecOn with
  | _ n ih =>
    intro xs hl h x hx
    cases xs with
    | nil => cases hx
    | cons y ys =>
      rw [validCs_cons, Bool.and_eq_true] at h
      rcases List.mem_cons.1 hx with rfl | hx
      · have := h.1; rw [okC, Bool.and_eq_true] at this; exact this.1
      have h2 := h.2
      rw [List.length_cons] at hl
      split at h2
      · rw [Bool.and_eq_true] at h2; exact ih ys.length (by omega) ys rfl h2.2 x hx
      · split at h2
        · rw [Bool.and_eq_true, Bool.and_eq_true, Bool.and_eq_true] at h2
          rw [← List.take_append_drop y.f2.toNat ys] at hx
          rcases List.mem_append.1 hx with hx | hx
          · exact ih _ (by rw [List.length_take]; omega) _ rfl h2.2.2.1 x hx
          · exact ih _ (by rw [List.length_drop]; omega) _ rfl h2.2.2.2 x hx
        · cases h2
theorem full_of {es : List ECommand} {xs : List DCommand} (hd : es.map (·.d) = xs) (h : validWhile xs = true) : Full es := by
  intro e he
  unfold validWhile at h
  rw [Bool.and_eq_true] at h
  exact (validE_pos (validCs_all _ xs rfl h.2 e.d (by rw [← hd]; exact List.mem_map_of_mem he))).1

set_option maxRecDepth 100000 in
theorem copyCmd_any (e : ECommand) (w : World) (h : RdCommand w e) (hl : wlCommand e.d ≤ 1048576) (h1 : 1 ≤ e.d.f3.length) :
    Calls Try.prog 153 #[.agg #[.int .i64 e.d.f0, .int .i64 e.d.f1, .int .i64 e.d.f2, e.u3]] w fun z w' => (∃ A c, z = .returned (.agg #[.int .i64 e.d.f0, .int .i64 e.d.f1, .int .i64 e.d.f2, .slice A e.d.f3.length c]) ∧ Inn 2 85 w.heap.size w'.heap.size [.slice A e.d.f3.length c] e.its w') ∧ Below w.heap.size w w' := by
  obtain ⟨⟨f0, f1, f2, f3⟩, u3⟩ := e
  obtain ⟨⟨A3, c3, hu3, ha3⟩, -⟩ := h
  simp only [wlCommand] at hl hu3 ha3 h1 ⊢
  unfold ECommand.its
  simp only
  subst hu3
  obtain ⟨n3, hn3⟩ : ∃ n, n = f3.length := ⟨_, rfl⟩
  have HN3 := Lib.hid hn3
  rw [← hn3] at ha3 hl h1 ⊢
  clear hn3
  obtain ⟨bx, ox, rfl, hsx⟩ := ha3.sl (k := 0) (by omega)
  obtain ⟨w0, HW0, B0, x0, y0⟩ := al2 w (.cells #[.int .i64 f0, .int .i64 f1, .int .i64 f2, .slice (some ⟨bx, ox, none⟩) n3 c3] 87) (.cells #[.int .i64 0, .int .i64 0, .int .i64 0, .slice none 0 0] 87)
  have HZ0 : Hid (w0.heap.size = w.heap.size + 1 + 1) := by unfold Hid; rw [HW0.out]; simp
  have hsrc : Src 2 w0 (.slice (some ⟨bx, ox, none⟩) n3 c3) n3 (rows R2.vs f3) := Src.of_sl (hsx.below' B0) (by rw [rows_len R2.vs_len]; have := HN3.out; omega)
  have HX0 := Lib.hid x0; have HY0 := Lib.hid y0; clear x0 y0
  go_enter Try.func153, Try.ntmps153
  go_wp2_with fail
  rw [← HW0.out]
  refine (clone_Expr_any _ n3 f3 _ hsrc (by omega)).mono ?_
  rintro z w1 ⟨v, rfl, own3, b3⟩
  obtain ⟨A, c, rfl⟩ := own_form own3
  have B1 := below_step B0 b3
  have x1 := (b3.block _ (heap_lt HX0.out)).trans HX0.out
  have y1 := (b3.block _ (heap_lt HY0.out)).trans HY0.out
  have I1 := (Inn.nil 2 w0.heap.size w0.heap.size 85 w1).snoc (it := (n3, rows R2.vs f3)) own3 (Nat.le_refl _) (Nat.le_refl _) (Nat.le_refl _) b3.size
  clear b3 own3 hsrc
  have L0 : w.heap.size < w0.heap.size := by have := HZ0.out; omega
  have L1 : w.heap.size + 1 < w0.heap.size := by have := HZ0.out; omega
  obtain ⟨w2, HW2, B2, x2, y2, I2, SZ2⟩ : ∃ w2, Hid (w2 = (w1.setCell ⟨w.heap.size, 3, none⟩ (.slice A n3 c))) ∧ Below w.heap.size w w2 ∧ w2.heap[w.heap.size]? = some (.cells #[.int .i64 f0, .int .i64 f1, .int .i64 f2, .slice A n3 c] 87 (0, 0)) ∧ w2.heap[w.heap.size + 1]? = some (.cells #[.int .i64 0, .int .i64 0, .int .i64 0, .slice none 0 0] 87 (0, 0)) ∧ Inn 2 85 w0.heap.size w1.heap.size [.slice A n3 c] [(n3, rows R2.vs f3)] w2 ∧ w1.heap.size = w2.heap.size := by
    refine ⟨_, rfl, ?_, ?_, ?_, ?_, ?_⟩
    · exact (B1.setCell (p := ⟨w.heap.size, 3, none⟩) (by simp) _)
    · exact (heap_set x1 (.slice A n3 c))
    · exact (heap_set_other y1 ⟨w.heap.size, 3, none⟩ (by dsimp only; omega) _)
    · exact (I1.set_low (b := w.heap.size) (o := 3) L0 _)
    · simp [World.setCell]
  have k3 : ∃ u, w1.cell? ⟨w.heap.size, 3, none⟩ = some u := ⟨_, by rw [cell_of_heap x1]; rfl⟩
  obtain ⟨o3, k3⟩ := k3
  have g3 : w1.frozen? ⟨w.heap.size, 3, none⟩ = false := frozen_of_heap x1
  have p0 : w1.cell? ⟨w.heap.size, 0, none⟩ = some (.int .i64 f0) := by rw [cell_of_heap x1]; rfl
  have p1 : w1.cell? ⟨w.heap.size, 1, none⟩ = some (.int .i64 f1) := by rw [cell_of_heap x1]; rfl
  have p2 : w1.cell? ⟨w.heap.size, 2, none⟩ = some (.int .i64 f2) := by rw [cell_of_heap x1]; rfl
  have q0 : w1.cell? ⟨w.heap.size + 1, 0, none⟩ = some (.int .i64 0) := by rw [cell_of_heap y1]; rfl
  have q1 : w1.cell? ⟨w.heap.size + 1, 1, none⟩ = some (.int .i64 0) := by rw [cell_of_heap y1]; rfl
  have q2 : w1.cell? ⟨w.heap.size + 1, 2, none⟩ = some (.int .i64 0) := by rw [cell_of_heap y1]; rfl
  have q3 : w1.cell? ⟨w.heap.size + 1, 3, none⟩ = some (.slice none 0 0) := by rw [cell_of_heap y1]; rfl
  have r0 : w1.frozen? ⟨w.heap.size + 1, 0, none⟩ = false := frozen_of_heap y1
  have r1 : w1.frozen? ⟨w.heap.size + 1, 1, none⟩ = false := frozen_of_heap y1
  have r2 : w1.frozen? ⟨w.heap.size + 1, 2, none⟩ = false := frozen_of_heap y1
  have r3 : w1.frozen? ⟨w.heap.size + 1, 3, none⟩ = false := frozen_of_heap y1
  clear x1 y1
  go_wp2
  refine bodyPost_ret (v := .agg #[.int .i64 f0, .int .i64 f1, .int .i64 f2, .slice A n3 c]) (by simp [results, Try.results153, go_sem, q0, q1, q2, q3]) rfl ?_
  refine ⟨⟨A, c, rfl, ?_⟩, ?_⟩
  · rw [← HW2.out]
    refine Inn.wide (hi := w2.heap.size) ?_ (by simp [World.setCell])
    rw [← SZ2]
    exact ((((I2.set_low (b := w.heap.size + 1) (o := 0) L1 _).set_low (b := w.heap.size + 1) (o := 1) L1 _).set_low (b := w.heap.size + 1) (o := 2) L1 _).set_low (b := w.heap.size + 1) (o := 3) L1 _).lower B0.size
  · rw [← HW2.out]
    exact ((((B2.setCell (p := ⟨w.heap.size + 1, 0, none⟩) (by simp) _).setCell (p := ⟨w.heap.size + 1, 1, none⟩) (by simp) _).setCell (p := ⟨w.heap.size + 1, 2, none⟩) (by simp) _).setCell (p := ⟨w.heap.size + 1, 3, none⟩) (by simp) _)

set_option maxRecDepth 100000 in
set_option maxHeartbeats 2000000 in
theorem mapped_any (A : Option Addr) (n c : Nat) (es : List ECommand) (w : World) (ha : Args 4 w A n (rows ECommand.vs es)) (hr : RdsCommand w es) (hf : Full es) (hn : n ≤ 1048576) (hts : sumCommand (es.map (·.d)) ≤ 1048576) :
    Calls Try.prog 152 #[.slice A n c, .func (.func 153) #[] #[]] w fun z w' => (∃ v es', z = .returned v ∧ SGrid kndCommand w.heap.size w'.heap.size 87 85 2 v es' w' ∧ es'.map (·.d) = es.map (·.d)) ∧ Below w.heap.size w w' := by
  have HL : Hid (es.length = n) := by have := ha.1; rw [rows_len (s := 4) (fun _ => rfl)] at this; unfold Hid; omega
  have HS := Lib.hid hts; clear hts
  have HI := Lib.hid infoCommand
  have hE := enters_of' (P := Try.prog) Try.func153 (by kernel_rfl) rfl
  have hown0 : (w.alloc (.cells #[] 87)).ownsRow w.heap.size 87 4 (.slice (some ⟨w.heap.size, 0, none⟩) 0 0) 0 [] := own_empty w 87 4
  have hb0 := laid_below w (.cells #[] 87)
  go_enter Try.func152, Try.ntmps152
  go_wp2
  go_loopw [5, 11] (fun v i wr => ∃ (k : Nat) (es' : List ECommand), k ≤ n ∧ es'.length = k ∧ i = .int .i64 k ∧ wr.ownsRow w.heap.size 87 4 v k (rows ECommand.vs es') ∧ Inn 2 85 w.heap.size wr.heap.size (es'.flatMap ECommand.us) (es'.flatMap ECommand.its) wr ∧ Hid (es'.map (·.d) = (es.take k).map (·.d)) ∧ Below w.heap.size w wr) (fun _ i _ => n - (intOf i).toNat)
  case atStart => exact ⟨0, [], Nat.zero_le _, rfl, rfl, hown0, Inn.nil _ _ _ _ _, rfl, hb0⟩
  case round =>
    obtain ⟨k, es', hk, hkl, rfl, hown, hinn, HD, hB⟩ := hrel
    clear hown0 hb0
    have HK := Lib.hid hkl; clear hkl
    by_cases hlt : k < n
    rotate_left
    · obtain rfl : n = k := by omega
      go_wp2
      go_ret
      refine ⟨⟨_, rfl, es', ⟨?_, hinn, fun q hq => (hown.lt q hq).2⟩, ?_⟩, hB⟩
      · rw [HK.out]; exact hown
      · rw [HD.out, List.take_of_length_le (by have := HL.out; omega)]
    obtain ⟨b, off, rfl, hs⟩ := ha.sl hlt
    obtain ⟨e, HX⟩ := hget HL hlt
    have hrd := hr e (List.mem_of_getElem? HX.out)
    have hwl := sumCommand_at (xs := es.map (·.d)) (k := k) (x := e.d) (by rw [List.getElem?_map, HX.out]; rfl)
    have hst := HS.out
    have h1 := hf e (List.mem_of_getElem? HX.out)
    have p0 : wr.cell? ⟨b, off + k * 4, none⟩ = some (.int .i64 e.d.f0) := Sl.rec (f := ECommand.vs) (s := 4) (fun _ => rfl) (hs.below' hB) HX.out (j := 0) rfl
    have p1 : wr.cell? ⟨b, off + k * 4 + 1, none⟩ = some (.int .i64 e.d.f1) := Sl.rec (f := ECommand.vs) (s := 4) (fun _ => rfl) (hs.below' hB) HX.out (j := 1) rfl
    have p2 : wr.cell? ⟨b, off + k * 4 + 2, none⟩ = some (.int .i64 e.d.f2) := Sl.rec (f := ECommand.vs) (s := 4) (fun _ => rfl) (hs.below' hB) HX.out (j := 2) rfl
    have p3 : wr.cell? ⟨b, off + k * 4 + 3, none⟩ = some e.u3 := Sl.rec (f := ECommand.vs) (s := 4) (fun _ => rfl) (hs.below' hB) HX.out (j := 3) rfl
    obtain ⟨⟨A3, c3, e3, a3⟩, -⟩ := id hrd
    rw [e3] at p3
    obtain ⟨w0, HW0, B0, -⟩ := al1 wr (.cells #[.int .i64 e.d.f0, .int .i64 e.d.f1, .int .i64 e.d.f2, .slice A3 e.d.f3.length c3] 87)
    have HT := Lib.hid (copyCmd_any e w0 ((hrd.below hB).below B0) (by omega) h1)
    rw [e3] at HT
    obtain ⟨⟨f0, f1, f2, f3⟩, u3⟩ := e
    unfold ECommand.its at HT
    dsimp only at p0 p1 p2 p3 HT e3 h1
    obtain ⟨n3, hn3⟩ : ∃ n, n = f3.length := ⟨_, rfl⟩
    rw [← hn3] at HT p3
    have HN3 := Lib.hid hn3
    clear hn3 a3 hrd hwl hst h1 hs hr ha e3 hf
    dsimp only at HW0
    rw [← HN3.out] at HW0
    go_wp2_with fail
    rw [← HW0.out]
    refine HT.out.mono ?_
    rintro z w1 ⟨⟨A', c', rfl, hin1⟩, hb1⟩
    have hB1 := below_step hB (below_step B0 hb1)
    have hb2 := below_step B0 hb1
    have hown1 := own_below' hown hb2
    obtain ⟨Av, cv, rfl⟩ := own_form hown1
    have hin2 := (hinn.below hb2).append (hin1.lower B0.size) hB.size (Nat.le_trans B0.size hb1.size)
    clear hown hinn hin1 hb1 hb2 hB B0 p0 p1 p2 p3
    have HI2 := Lib.hid hin2; clear hin2
    go_wp2_with (at_builtin; refine wpList_appg rfl _ _ _ rfl Try.underlying26 HI.out rfl (by omega) w.heap.size w1 hown1 hB1.size rfl 1 #[.int .i64 f0, .int .i64 f1, .int .i64 f2, .slice A' n3 c'] rfl (laid_below _ _) (heap_alloc_new _ _) rfl (by simp [Value.oneCell']) (by omega) (by unfold maxLen; omega) (by omega) ?_; intro g cap w2 hown2 hg2; have hB2 := grown_below hB1 hown1 (Nat.le_refl _) hg2; have HI3 := Lib.hid ((HI2.out.kept hown1 hg2 (by decide)).wide hg2.size); clear hown1 hg2 hB1)
    have HD2 : Hid ((es' ++ [(⟨⟨f0, f1, f2, f3⟩, .slice A' n3 c'⟩ : ECommand)]).map (·.d) = (es.take (k + 1)).map (·.d)) := by unfold Hid; rw [List.map_append, HD.out, List.take_add_one, HX.out, List.map_append]; rfl
    go_roundw
    case rel =>
      refine ⟨k + 1, es' ++ [(⟨⟨f0, f1, f2, f3⟩, .slice A' n3 c'⟩ : ECommand)], by omega, by simp [HK.out], by go_num, ?_, ?_, HD2.out, hB2⟩
      · rw [rows_app, rows_one]; exact hown2
      · rw [List.flatMap_append, List.flatMap_append]
        have := HI3.out
        simp only [List.flatMap_cons, List.flatMap_nil, List.append_nil, ECommand.us, ECommand.its, ← HN3.out]
        exact this
    case measure => simp [intOf]; omega

set_option maxRecDepth 100000 in
theorem copyWhile_any (A : Option Addr) (n c : Nat) (es : List ECommand) (w : World) (ha : Args 4 w A n (rows ECommand.vs es)) (hr : RdsCommand w es) (hf : Full es) (hn : n ≤ 1048576) (hts : sumCommand (es.map (·.d)) ≤ 1048576) :
    Calls Try.prog 110 #[.slice A n c] w fun z w' => (∃ v es', z = .returned v ∧ SGrid kndCommand w.heap.size w'.heap.size 87 85 2 v es' w' ∧ es'.map (·.d) = es.map (·.d)) ∧ Below w.heap.size w w' := by
  go_enter Try.func110, Try.ntmps110
  go_wp2_with fail
  refine (mapped_any A n c es _ ha hr hf hn hts).mono ?_
  rintro z w1 ⟨⟨v, es', rfl, hg, hd⟩, hb⟩
  go_wp2
  go_ret
  exact ⟨⟨v, es', rfl, hg, hd⟩, hb⟩

theorem SGrid.nil {E : Type} (K : Knd E) (base hi : Nat) (T Te : TypeId) (s : Nat) (w : World) : SGrid K base hi T Te s (.slice none 0 0) [] w :=
  ⟨World.ownsRow_nil _ _ _ _, Inn.nil _ _ _ _ _, by simp [Value.ownBlock]⟩
/-- A program that may be too long, with a code. -/
def fitW (xs : List DCommand) : List DCommand × Int := if xs.length ≤ 80 then (xs, 0) else ([], 5)

set_option maxRecDepth 100000 in
theorem shortWhile_any (A : Option Addr) (n c : Nat) (es : List ECommand) (xs : List DCommand) (w : World) (ha : Args 4 w A n (rows ECommand.vs es)) (hr : RdsCommand w es) (hf : Full es) (hd : es.map (·.d) = xs) (hl : xs.length = n) (hn : n ≤ 1048576) (hts : sumCommand xs ≤ 1048576) :
    Calls Try.prog 68 #[.slice A n c] w fun z w' => (∃ v es', z = .returned (.tuple #[v, .int .i64 (fitW xs).2]) ∧ SGrid kndCommand w.heap.size w'.heap.size 87 85 2 v es' w' ∧ es'.map (·.d) = (fitW xs).1) ∧ Below w.heap.size w w' := by
  have HL := Lib.hid hl; have HD := Lib.hid hd; clear hl hd
  by_cases h8 : n ≤ 80
  rotate_left
  · have HF : Hid (fitW xs = ([], 5)) := by unfold Hid fitW; rw [if_neg (by rw [HL.out]; exact h8)]
    go_enter Try.func68, Try.ntmps68
    go_wp2
    go_ret2
    rw [HF.out]
    exact ⟨⟨_, [], rfl, SGrid.nil _ _ _ _ _ _ _, rfl⟩, Below.refl _ _⟩
  have HF : Hid (fitW xs = (xs, 0)) := by unfold Hid fitW; rw [if_pos (by rw [HL.out]; exact h8)]
  go_enter Try.func68, Try.ntmps68
  go_wp2_with fail
  refine (copyWhile_any A n c es _ ha hr hf hn (by rw [HD.out]; exact hts)).mono ?_
  rintro z w1 ⟨⟨v, es', rfl, hg, hd⟩, hb⟩
  have HD2 := Lib.hid (hd.trans HD.out); clear hd
  go_wp2
  go_ret2
  rw [HF.out]
  exact ⟨⟨v, es', rfl, hg, HD2.out⟩, hb⟩

end Go.Proofs.Ytfmfpknigafnoaa
