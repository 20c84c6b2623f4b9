/- slices.Sort, slices.Compact and slices.Clone on rows of numbers of the call's own; SortList, rising, l00Put. -/
import Derived.Test.YtdfjgcnipcbboaaSortRow
import Derived.Test.YtdfjgcnipcbboaaSortLay
import Derived.Test.YtdfjgcnipcbboaaApp
import Derived.Test.YtdfjgcnipcbboaaNums
import Derived.Test.YtdfjgcnipcbboaaHelpInt
namespace Go.Proofs.Ytdfjgcnipcbboaa
open Go.RowKit Go.Sort
set_option linter.all false

theorem sort_any (base : Nat) (A : Option Addr) (n c : Nat) (xs : List Int) (w : World) (hown : w.ownsRow base 2 1 (.slice A n c) n (xs.map (Value.int .i64))) (hn : n ≤ 1048576) :
    Calls Try.prog 189 #[.slice A n c] w fun e w' => e = .returned (.tuple #[]) ∧ w'.ownsRow base 2 1 (.slice A n c) n ((srt xs).map (Value.int .i64)) ∧ w.grownBy w' (Value.slice A n c).ownBlock := by
  have hl : xs.length = n := by have := hown.1; simpa using this
  by_cases h0 : n = 0
  · subst h0
    have hx : xs = [] := List.eq_nil_of_length_eq_zero hl
    subst hx
    refine (AnyM.slices_Sort_int_none Try.laySort A c w).mono ?_
    rintro e w' ⟨rfl, rfl⟩
    exact ⟨rfl, by simpa [srt] using hown, ⟨rfl, rfl, rfl, Nat.le_refl _, fun _ _ _ => rfl⟩⟩
  obtain ⟨g, rfl, hg, hgl⟩ : ∃ g, A = some ⟨g, 0, none⟩ ∧ base ≤ g ∧ g < w.heap.size := by
    rcases hown.2 with ⟨_, h⟩ | ⟨g, cap', cur, hv, hb, hg, _⟩
    · omega
    · injection hv with h1 h2 h3
      exact ⟨g, h1, hb, heap_lt hg⟩
  have hc := AnyM.slices_Sort_int Try.laySort g 0 c xs w (holds_of_own hown) hgl (by omega)
  rw [hl] at hc
  refine hc.mono ?_
  rintro e w' ⟨rfl, q, os, rfl⟩
  obtain ⟨h1, h2⟩ := own_putRow hown (srt xs) (by rw [srt_len, hl]) q
  exact ⟨rfl, own_below' h1 (below_growS _ _), grown_grow h2 os⟩
