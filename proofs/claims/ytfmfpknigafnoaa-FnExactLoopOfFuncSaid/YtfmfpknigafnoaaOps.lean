/- Operations at a state that is a letter, for regions walked by facts. Plain laws. -/
import Derived.Test.YtfmfpknigafnoaaAnyOrd
import Derived.Test.YtfmfpknigafnoaaRec
import Derived.ArgAppend
namespace Go.Proofs.Ytfmfpknigafnoaa
open Go.RowKit
set_option linter.all false

theorem op_move {P : Program} {o : Oper} {a : Act} {w : World} {K : Act → World → Prop} {Q : Exit → Act → World → Prop} (x : Operand) (ho : o.op = .move x) {v : Value} (hx : a.eval x = v) (h : K (a.put o.dst v) w) : o.wp P a w K Q := by
  unfold Oper.wp; simp [execOp, ho, hx, Oper.upon]; exact h
theorem op_append {P : Program} {o : Oper} {a : Act} {w : World} {K : Act → World → Prop} {Q : Exit → Act → World → Prop} (s x : Operand) (t : TypeId)
    (ho : o.op = .call { callee := .builtin .append, args := #[s, x], argTypes := #[t, t] })
    {e : TypeId} {z : Value} {size bytes : Nat} (ht : P.underlying t = some (.slice e)) (hinfo : (P.info? e).map (fun i => (i.zero, i.size, i.bytes)) = some (some z, size, bytes)) (hzs : z.cells.size = size) (hsz : 0 < size)
    {g n : Nat} {xs : List Value} (hs : a.eval s = .slice (some ⟨g, 0, none⟩) n n) (hg : Sl w g 0 xs) (hxl : xs.length = n * size)
    {b off m c : Nat} {ys : List Value} (hx : a.eval x = .slice (some ⟨b, off, none⟩) m c) (hy : Sl w b off ys) (hyl : ys.length = m * size) (h1 : ∀ u ∈ ys, u.oneCell' = true) (h63 : n + m ≤ maxLen) (hbytes : (n + m) * bytes ≤ 140737488355328)
    (h : ∀ A c' w', Args size w' A (n + m) (xs ++ ys) → Below w.heap.size w w' → K (a.put o.dst (.slice A (n + m) c')) w') : o.wp P a w K Q := by
  obtain ⟨i, hi, hz, hsize, hby⟩ := info_parts hinfo
  have hnews : ∀ j u, ys[j]? = some u → w.cell? ((⟨b, off, none⟩ : Addr).add j) = some u := fun j u hu => by rw [addr_add]; exact hy.2 j u hu
  by_cases hm : m = 0
  · subst hm
    have hyn : ys = [] := List.eq_nil_of_length_eq_zero (by simpa using hyl)
    subst hyn
    have hrun := run_append_room_cells (P := P) w t o.type e i ht hi g 0 n n ⟨b, off, none⟩ 0 c [] (by simp) (by simp) (by simp) (by omega) (by simp) (by simp)
    unfold Oper.wp
    simp [execOp, ho, resolve, invoke, builtin, hs, hx, hrun, Result.andThen]
    have := h (some ⟨g, 0, none⟩) n w (by rw [List.append_nil]; exact Args.of_sl hg (by rw [hxl]; rfl)) (Below.refl _ _)
    exact this
  · obtain ⟨v', w', hrun, r1, r2⟩ := run_append_arg_grows (P := P) w t o.type e i z size bytes ht hi hz hsize hby hzs hsz ⟨g, 0, none⟩ n n xs hxl (fun j u hu => by rw [addr_add]; exact hg.2 j u hu) ⟨b, off, none⟩ m c ys hyl hnews (by omega) h63 hbytes
    unfold Oper.wp
    simp [execOp, ho, resolve, invoke, builtin, hs, hx, hrun, Result.andThen]
    obtain ⟨A, c', rfl⟩ := own_form r1
    exact h A c' w' (args_of_own r1) ⟨r2.os, r2.tape, r2.output, r2.size, fun k hk => r2.block k hk (by simp)⟩

end Go.Proofs.Ytfmfpknigafnoaa
