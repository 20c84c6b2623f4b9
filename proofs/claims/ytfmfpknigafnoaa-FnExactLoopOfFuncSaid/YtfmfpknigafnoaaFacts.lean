/- Facts for regions walked by facts: a value, a fresh row, a row that reads. Plain words. -/
import Derived.Test.YtfmfpknigafnoaaOps
import Derived.Test.YtfmfpknigafnoaaHeld
namespace Go.Proofs.Ytfmfpknigafnoaa
open Go.RowKit
set_option linter.all false

theorem kev {a : Act} {t : Tmp} {v : Value} (h : a.eval (.tmp t) = v) : a.tmps[t]?.getD undef = v := by
  rw [Act.eval] at h; simpa using h
def kcst (v : Value) : Fact := ⟨fun x _ => x = v, fun _ _ _ h _ => h⟩
def ksl (n : Nat) (xs : List Value) : Fact := ⟨fun x w => ∃ g, x = .slice (some ⟨g, 0, none⟩) n n ∧ Sl w g 0 xs, fun _ _ _ ⟨g, h, k⟩ hb => ⟨g, h, k.below' hb⟩⟩
def karg (s n : Nat) (xs : List Value) : Fact := ⟨fun x w => ∃ A c, x = .slice A n c ∧ Args s w A n xs, fun _ _ _ ⟨A, c, h, k⟩ hb => ⟨A, c, h, k.below hb⟩⟩
end Go.Proofs.Ytfmfpknigafnoaa
