/- Tag systems: what the reference's walk carries. Plain lemmas. -/
import Derived.Test.YtcfkjigapnknnaaTagImpl4
namespace Go.Proofs.Ytcfkjigapnknnaa
open Go.RowKit
set_option linter.all false

/-- No word of the rules lies in block g. -/
def ApartMk (g : Nat) (es : List EMarkovRule) : Prop := ∀ v ∈ es.flatMap kndMarkovRule.us, v.ownBlock ≠ some g
theorem ApartMk.of_row {lo : Nat} {V : Value} {es : List EMarkovRule} {xs : List DMarkovRule} {W : World} (h : MkRow lo V es xs W) {g : Nat} (hg : W.heap.size ≤ g) : ApartMk g es := by
  intro v hv e
  obtain ⟨j, hj⟩ := List.getElem?_of_mem hv
  have := h.acc.inn.top j v g hj e
  omega
theorem ApartMk.push {g : Nat} {es : List EMarkovRule} {e : EMarkovRule} {f0 f1 : List Int} {b0 b1 : Nat} {W0 W1 : World} (h : ApartMk g es) (q0 : Wd b0 e.u0 f0 W0) (q1 : Wd b1 e.u1 f1 W1) (h0 : g < b0) (h1 : g < b1) : ApartMk g (es ++ [e]) := by
  intro v hv
  rw [List.flatMap_append, List.mem_append] at hv
  rcases hv with hv | hv
  · exact h v hv
  · have hv2 : v = e.u0 ∨ v = e.u1 := by
      have : v ∈ [e.u0, e.u1] := by simpa [kndMarkovRule, EMarkovRule.us] using hv
      simpa using this
    rcases hv2 with rfl | rfl
    · intro e1; have := (q0.1.lt g e1).1; omega
    · intro e1; have := (q1.1.lt g e1).1; omega
theorem MkRow.setword {lo : Nat} {V : Value} {es : List EMarkovRule} {xs : List DMarkovRule} {W : World} {g i : Nat} {cs : Array Value} {fr : Nat × Nat} (h : MkRow lo V es xs W) (hg : W.heap[g]? = some (.cells cs 2 fr)) (ha : ApartMk g es) (u : Value) : MkRow lo V es xs (W.setCell ⟨g, i, none⟩ u) := by
  have hs : (W.setCell ⟨g, i, none⟩ u).heap.size = W.heap.size := by simp [World.setCell]
  refine ⟨⟨own_setCell h.acc.own (fun e1 => own_ne_block h.acc.own hg (by decide) e1) u, ?_⟩, ?_, h.map⟩
  · rw [hs]
    exact ⟨h.acc.inn.len, fun j v it h1 h2 => own_setCell (h.acc.inn.own j v it h1 h2) (fun e1 => ha v (List.mem_of_getElem? h1) e1.symm) u, h.acc.inn.top, h.acc.inn.apart⟩
  · rw [hs]; exact h.adr
theorem own_heap {w : World} {base : Nat} {e : TypeId} {s g n c : Nat} {xs : List Value} (h : w.ownsRow base e s (.slice (some ⟨g, 0, none⟩) n c) n xs) : ∃ cs, w.heap[g]? = some (.cells cs e (0, 0)) := by
  rcases h.2 with ⟨h1, _⟩ | ⟨g', cap, cur, h1, _, h2, _⟩
  · cases h1
  · injection h1 with h1
    injection h1 with h1
    injection h1 with h1
    subst h1
    exact ⟨cur, h2⟩
def lenV : Value → Nat
  | .slice _ n _ => n
  | _ => 0

theorem wordsN_in {n : Nat} : ∀ {l : Nat} {x : List Int}, x ∈ wordsN n l → ∀ a ∈ x, 0 ≤ a ∧ a < (n : Int) := by
  intro l
  induction l with
  | zero => intro x h a ha; simp [wordsN] at h; subst h; cases ha
  | succ l ih =>
    intro x h a ha
    simp only [wordsN, List.mem_flatMap, List.mem_map] at h
    obtain ⟨y, hy, b, hb, rfl⟩ := h
    rcases List.mem_append.1 ha with h1 | h1
    · exact ih hy a h1
    · have e := List.mem_singleton.1 h1
      subst e
      simp only [ltrs, List.mem_map, List.mem_range] at hb
      obtain ⟨c, hc, rfl⟩ := hb
      omega

/-- A word whose last letters were turned to 0. -/
def zeroed (x : List Int) (k : Nat) : List Int := x.take k ++ List.replicate (x.length - k) 0
theorem zeroed_all (x : List Int) : zeroed x x.length = x := by simp [zeroed]
theorem zeroed_len (x : List Int) (k : Nat) (h : k ≤ x.length) : (zeroed x k).length = x.length := by simp [zeroed]; omega
theorem zeroed_at {x : List Int} {k j : Nat} (h : j < k) : (zeroed x k)[j]? = x[j]? := by
  by_cases hj : j < x.length
  · rw [zeroed, List.getElem?_append_left (by rw [List.length_take]; omega), List.getElem?_take, if_pos h]
  · have h1 : x[j]? = none := List.getElem?_eq_none (by omega)
    have h2 : (zeroed x k)[j]? = none := List.getElem?_eq_none (by simp [zeroed]; omega)
    rw [h1, h2]
theorem zeroed_set {x : List Int} {k : Nat} (h : k < x.length) : (zeroed x (k + 1)).set k 0 = zeroed x k := by
  apply List.ext_getElem?
  intro j
  rw [List.getElem?_set]
  have hl := zeroed_len x (k + 1) (by omega)
  have hl2 := zeroed_len x k (by omega)
  by_cases hj : k = j
  · subst hj
    rw [if_pos rfl, if_pos (by omega), zeroed, List.getElem?_append_right (by rw [List.length_take]; omega), List.length_take, Nat.min_eq_left (by omega), Nat.sub_self, List.getElem?_replicate, if_pos (by omega)]
  · rw [if_neg hj]
    by_cases hjk : j < k
    · rw [zeroed_at (by omega), zeroed_at hjk]
    · by_cases hjl : j < x.length
      · rw [zeroed, zeroed, List.getElem?_append_right (by rw [List.length_take]; omega), List.getElem?_append_right (by rw [List.length_take]; omega), List.getElem?_replicate, List.getElem?_replicate, List.length_take, List.length_take, if_pos (by omega), if_pos (by omega)]
      · rw [List.getElem?_eq_none (by omega), List.getElem?_eq_none (by omega)]
theorem zeroed_next {n : Nat} {x : List Int} {k : Nat} {a : Int} (hk : x[k]? = some a) (ha : a ≠ (n : Int) - 1) (hq : ∀ b ∈ x.drop (k + 1), b = (n : Int) - 1) : nextW n x = some ((zeroed x (k + 1)).set k (a + 1)) := by
  obtain ⟨hlt, he⟩ := List.getElem?_eq_some_iff.1 hk
  have e1 : x = x.take k ++ a :: x.drop (k + 1) := by
    conv => lhs; rw [← List.take_append_drop k x, List.drop_eq_getElem_cons hlt, he]
  have h1 := nextW_turn ha hq (x.take k)
  rw [← e1] at h1
  rw [h1]
  congr 1
  have e2 : zeroed x (k + 1) = x.take k ++ a :: List.replicate (x.length - (k + 1)) 0 := by
    rw [zeroed, List.take_add_one, hk]; simp
  rw [e2, List.set_append_right _ _ (by rw [List.length_take]; omega), List.length_take, Nat.min_eq_left (by omega), Nat.sub_self, List.set_cons_zero, List.length_drop]
end Go.Proofs.Ytcfkjigapnknnaa
