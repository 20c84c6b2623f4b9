/- Loop programs without LoopAgain: slices.ContainsFunc and IndexFunc with IsBounded's closure, IsBounded, the reference's IsBounded. -/
import Derived.Test.YthjehhiaedfodaaLoops
namespace Go.Proofs.Ythjehhiaedfodaa
open Go.RowKit
set_option linter.all false

def isAgain (x : R3) : Bool := decide (x.a = 4)
def isBoundedB (xs : List R3) : Bool := validL xs && !xs.any isAgain

theorem isBounded1_is (x : R3) (v : Bool) (h : isAgain x = v) (w : World) : Calls Try.prog 56 #[.agg #[.int .i64 x.a, .int .i64 x.b, .int .i64 x.c]] w fun e w' => e = .returned (.bool v) ∧ Below w.heap.size w w' := by
  subst h
  have h0 : Below w.heap.size w (w.alloc (.cells #[.int .i64 x.a, .int .i64 x.b, .int .i64 x.c] 64)) := (Below.refl _ _).alloc (Nat.le_refl _) _
  rcases Bool.eq_false_or_eq_true (isAgain x) with hv | hv
  · have e4 : (x.a == 4) = true := by unfold isAgain at hv; simpa using hv
    go_enter Try.func56, Try.ntmps56
    go_wp2
    go_ret
    exact ⟨ret_bool (by first | rfl | rw [hv] | simp [hv]), h0⟩
  · have e4 : (x.a == 4) = false := by unfold isAgain at hv; simpa using hv
    go_enter Try.func56, Try.ntmps56
    go_wp2
    go_ret
    exact ⟨ret_bool (by first | rfl | rw [hv] | simp [hv]), h0⟩

/-- A function that can be entered. -/
theorem enters_of' {P : Program} {f : FuncId} {fn : Func} {c : Code} (hf : P.funcs[f]? = some fn) (hname : (fn.name == "runtime.NumGoroutine") = false) (hb : fn.body = some c) (args : Array Value) (W : World) : (callFunc f args).run P W = .ok (.enter f args) W := by
  have h1 : fn.name ≠ "runtime.NumGoroutine" := by simpa using hname
  simp [callFunc, hf, h1, hb, mark]

/-- The first place where p holds, or -1. -/
def findI {α : Type} (p : α → Bool) (xs : List α) : Int := match xs.findIdx? p with | some k => k | none => -1
theorem findI_none {α : Type} {p : α → Bool} {xs : List α} (h : ∀ (j : Nat) x, xs[j]? = some x → p x = false) : findI p xs = -1 := by
  have : xs.findIdx? p = none := by
    rw [List.findIdx?_eq_none_iff]
    intro x hx
    obtain ⟨j, hj⟩ := List.getElem?_of_mem hx
    exact h j x hj
  simp [findI, this]
theorem findI_some {α : Type} {p : α → Bool} {xs : List α} {k : Nat} {x : α} (h : ∀ j y, j < k → xs[j]? = some y → p y = false) (hx : xs[k]? = some x) (hp : p x = true) : findI p xs = k := by
  have : xs.findIdx? p = some k := by
    obtain ⟨hk, e⟩ := List.getElem?_eq_some_iff.1 hx
    rw [List.findIdx?_eq_some_iff_getElem]
    refine ⟨hk, by rw [e]; exact hp, fun j hj => ?_⟩
    rw [h j _ hj (List.getElem?_eq_getElem (by omega))]
    simp
  simp [findI, this]
theorem findI_any {α : Type} (p : α → Bool) (xs : List α) : decide (0 ≤ findI p xs) = xs.any p := by
  unfold findI
  cases h : xs.findIdx? p with
  | none =>
    rw [List.findIdx?_eq_none_iff] at h
    have : xs.any p = false := by rw [List.any_eq_false]; intro x hx; simp [h x hx]
    rw [this]; rfl
  | some k =>
    rw [List.findIdx?_eq_some_iff_getElem] at h
    obtain ⟨hk, hp, _⟩ := h
    have : xs.any p = true := List.any_eq_true.2 ⟨_, List.getElem_mem hk, hp⟩
    rw [this]; simp

set_option maxRecDepth 100000 in
set_option maxHeartbeats 400000 in
theorem indexFunc_Loop (F : FuncId) (caps : Array Value) (p : R3 → Bool) (b off n c : Nat) (xs : List R3) (w : World) (hs : Sl w b off (rows R3.vs xs)) (hl : xs.length = n) (hn : n ≤ 1048576)
    (hE : ∀ (args : Array Value) (W : World), (callFunc F args).run Try.prog W = .ok (.enter F args) W) (hF : Hid (∀ x v W, x ∈ xs → p x = v → Below w.heap.size w W → Calls Try.prog F (#[.agg #[.int .i64 x.a, .int .i64 x.b, .int .i64 x.c]] ++ caps) W fun e w' => e = .returned (.bool v) ∧ Below W.heap.size W w')) :
    Calls Try.prog 93 #[.slice (some ⟨b, off, none⟩) n c, .func (.func F) #[] caps] w fun e w' => e = .returned (.int .i64 (findI p xs)) ∧ Below w.heap.size w w' := by
  have HL := Lib.hid hl; clear hl
  go_enter Try.func93, Try.ntmps93
  go_wp2
  go_loopw [8] (fun i wr => ∃ k : Nat, k ≤ n ∧ i = .int .i64 k ∧ Below w.heap.size w wr ∧ Hid (∀ j x, j < k → xs[j]? = some x → p x = false)) (fun i _ => n - (intOf i).toNat)
  case atStart => exact ⟨0, Nat.zero_le _, rfl, Below.refl _ _, by intro j x hj; omega⟩
  case round =>
    obtain ⟨k, hk, rfl, hB, HR⟩ := hrel
    by_cases hlt : k < n
    · obtain ⟨x, HX⟩ := hget HL hlt
      obtain ⟨p0, p1, p2⟩ := (hs.below' hB).rec3 HX.out
      rcases Bool.eq_false_or_eq_true (p x) with hv | hv
      · have HV := Lib.hid hv; clear hv
        go_wp2_with fail
        refine (hF.out x true _ (List.mem_of_getElem? HX.out) HV.out hB).mono ?_
        rintro e w1 ⟨rfl, hb1⟩
        have hB1 := below_step hB hb1
        clear hb1 p0 p1 p2
        go_wp2
        go_ret
        exact ⟨ret_int (findI_some HR.out HX.out HV.out).symm, hB1⟩
      · have HV := Lib.hid hv; clear hv
        go_wp2_with fail
        refine (hF.out x false _ (List.mem_of_getElem? HX.out) HV.out hB).mono ?_
        rintro e w1 ⟨rfl, hb1⟩
        have hB1 := below_step hB hb1
        clear hb1 p0 p1 p2
        go_wp2
        go_roundw
        case rel => exact ⟨k + 1, by omega, by go_num, hB1, by
          intro j y hj hy
          by_cases ej : j = k
          · subst ej; rw [HX.out] at hy; injection hy with hy; subst hy; exact HV.out
          · exact HR.out j y (by omega) hy⟩
        case measure => simp [intOf]; omega
    · go_wp2
      go_ret
      refine ⟨ret_int ?_, hB⟩
      rw [findI_none]
      intro j x hx
      exact HR.out j x (by have := (List.getElem?_eq_some_iff.1 hx).1; have := HL.out; omega) hx

set_option maxRecDepth 100000 in
theorem containsFunc_Loop (F : FuncId) (caps : Array Value) (p : R3 → Bool) (b off n c : Nat) (xs : List R3) (w : World) (hs : Sl w b off (rows R3.vs xs)) (hl : xs.length = n) (hn : n ≤ 1048576)
    (hE : ∀ (args : Array Value) (W : World), (callFunc F args).run Try.prog W = .ok (.enter F args) W) (hF : Hid (∀ x v W, x ∈ xs → p x = v → Below w.heap.size w W → Calls Try.prog F (#[.agg #[.int .i64 x.a, .int .i64 x.b, .int .i64 x.c]] ++ caps) W fun e w' => e = .returned (.bool v) ∧ Below W.heap.size W w')) :
    Calls Try.prog 55 #[.slice (some ⟨b, off, none⟩) n c, .func (.func F) #[] caps] w fun e w' => e = .returned (.bool (xs.any p)) ∧ Below w.heap.size w w' := by
  have HL := Lib.hid hl; clear hl
  rcases Bool.eq_false_or_eq_true (decide (0 ≤ findI p xs)) with hv | hv
  · have h0 : 0 ≤ findI p xs := of_decide_eq_true hv
    have HV := Lib.hid (hv.symm.trans (findI_any p xs)); clear hv
    go_enter Try.func55, Try.ntmps55
    go_wp2_with fail
    refine (indexFunc_Loop F caps p b off n c xs _ hs HL.out hn hE hF).mono ?_
    rintro e w1 ⟨rfl, hb1⟩
    go_wp2
    go_ret
    exact ⟨ret_bool (by first | exact HV.out | (rw [← HV.out]; simp; omega)), hb1⟩
  · have h0 : findI p xs < 0 := by have := of_decide_eq_false hv; omega
    have HV := Lib.hid (hv.symm.trans (findI_any p xs)); clear hv
    go_enter Try.func55, Try.ntmps55
    go_wp2_with fail
    refine (indexFunc_Loop F caps p b off n c xs _ hs HL.out hn hE hF).mono ?_
    rintro e w1 ⟨rfl, hb1⟩
    go_wp2
    go_ret
    exact ⟨ret_bool (by first | exact HV.out | (rw [← HV.out]; simp; omega)), hb1⟩

theorem implIsBounded_any (b off n c : Nat) (xs : List R3) (w : World) (hs : Sl w b off (rows R3.vs xs)) (hl : xs.length = n) (hn : n ≤ 1048576) (hc : n ≤ c) (hf : ∀ x ∈ xs, x.wf) :
    Calls Try.prog 19 #[.slice (some ⟨b, off, none⟩) n c] w fun e w' => e = .returned (.bool (isBoundedB xs)) ∧ Below w.heap.size w w' := by
  have HL := Lib.hid hl; clear hl
  have HF := Lib.hid hf; clear hf
  rcases Bool.eq_false_or_eq_true (validL xs) with hv | hv
  · have HV := Lib.hid hv; clear hv
    rcases Bool.eq_false_or_eq_true (xs.any isAgain) with hv | hv
    all_goals
      have HA := Lib.hid hv; clear hv
      go_enter Try.func19, Try.ntmps19
      go_wp2_with fail
      refine (implValidLoop_is b off n c xs true HV.out _ (Args.of_sl hs (by rw [rows_len R3.vs_len, HL.out])) hn hc).mono ?_
      rintro e w1 ⟨rfl, hb1⟩
      go_wp2_with fail
      refine (containsFunc_Loop _ #[] isAgain b off n c xs _ (hs.below' hb1) HL.out hn (enters_of' Try.func56 (by kernel_rfl) rfl) (fun x v W _ h _ => isBounded1_is x v h W)).mono ?_
      rintro e w2 ⟨he, hb2⟩
      rw [HA.out] at he
      subst he
      go_wp2
      go_ret
      exact ⟨ret_bool (by unfold isBoundedB; rw [HV.out, HA.out]; rfl), below_step hb1 hb2⟩
  · have HV := Lib.hid hv; clear hv
    go_enter Try.func19, Try.ntmps19
    go_wp2_with fail
    refine (implValidLoop_is b off n c xs false HV.out _ (Args.of_sl hs (by rw [rows_len R3.vs_len, HL.out])) hn hc).mono ?_
    rintro e w1 ⟨rfl, hb1⟩
    go_wp2
    go_ret
    exact ⟨ret_bool (by unfold isBoundedB; rw [HV.out]; rfl), hb1⟩

set_option maxHeartbeats 400000 in
theorem specIsBounded_any (b off n c : Nat) (xs : List R3) (w : World) (hs : Sl w b off (rows R3.vs xs)) (hl : xs.length = n) (hn : n ≤ 1048576) (hc : n ≤ c) (hf : ∀ x ∈ xs, x.wf) :
    Calls Try.prog 18 #[.slice (some ⟨b, off, none⟩) n c] w fun e w' => e = .returned (.bool (isBoundedB xs)) ∧ Below w.heap.size w w' := by
  have HL := Lib.hid hl; clear hl
  have HF := Lib.hid hf; clear hf
  rcases Bool.eq_false_or_eq_true (validL xs) with hv | hv
  · have HV := Lib.hid hv; clear hv
    go_enter Try.func18, Try.ntmps18
    go_wp2_with fail
    refine (l17Is_is b off n c xs true HV.out _ (Args.of_sl hs (by rw [rows_len R3.vs_len, HL.out])) hn).mono ?_
    rintro e w1 ⟨rfl, hb1⟩
    have hs1 := hs.below' hb1
    clear hs
    go_wp2
    go_loop [3] (fun i => ∃ k : Nat, k ≤ n ∧ i = .int .i64 k ∧ Hid (∀ j x, j < k → xs[j]? = some x → isAgain x = false)) (fun i => n - (intOf i).toNat)
    case atStart => exact ⟨0, Nat.zero_le _, rfl, by intro j x hj; omega⟩
    case round =>
      obtain ⟨k, hk, rfl, HR⟩ := hrel
      by_cases hlt : k < n
      · obtain ⟨x, HX⟩ := hget HL hlt
        obtain ⟨p0, p1, p2⟩ := hs1.rec3 HX.out
        clear p1 p2 hs1
        rcases Bool.eq_false_or_eq_true (isAgain x) with hv | hv
        · have HA := Lib.hid hv
          have e4 : (x.a == 4) = true := by unfold isAgain at hv; simpa using hv
          clear hv
          go_wp2
          go_ret
          refine ⟨ret_bool ?_, hb1⟩
          unfold isBoundedB
          rw [HV.out, List.any_eq_true.2 ⟨x, List.mem_of_getElem? HX.out, HA.out⟩]; rfl
        · have HA := Lib.hid hv
          have e4 : (x.a == 4) = false := by unfold isAgain at hv; simpa using hv
          clear hv
          go_wp2
          go_round
          case rel => exact ⟨k + 1, by omega, by go_num, by
            intro j y hj hy
            by_cases ej : j = k
            · subst ej; rw [HX.out] at hy; injection hy with hy; subst hy; exact HA.out
            · exact HR.out j y (by omega) hy⟩
          case measure => simp [intOf]; omega
      · go_wp2
        go_ret
        refine ⟨ret_bool ?_, hb1⟩
        unfold isBoundedB
        rw [HV.out, show xs.any isAgain = false by
          rw [List.any_eq_false]
          intro x hx
          obtain ⟨j, hj⟩ := List.getElem?_of_mem hx
          rw [HR.out j x (by have := (List.getElem?_eq_some_iff.1 hj).1; have := HL.out; omega) hj]; simp]
        rfl
  · have HV := Lib.hid hv; clear hv
    go_enter Try.func18, Try.ntmps18
    go_wp2_with fail
    refine (l17Is_is b off n c xs false HV.out _ (Args.of_sl hs (by rw [rows_len R3.vs_len, HL.out])) hn).mono ?_
    rintro e w1 ⟨rfl, hb1⟩
    go_wp2
    go_ret
    exact ⟨ret_bool (by unfold isBoundedB; rw [HV.out]; rfl), hb1⟩

end Go.Proofs.Ythjehhiaedfodaa
