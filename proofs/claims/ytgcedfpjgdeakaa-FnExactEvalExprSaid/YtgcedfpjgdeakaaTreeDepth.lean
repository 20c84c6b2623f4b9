/- DepthOf, the reference's and the program's. -/
import Derived.Test.YtgcedfpjgdeakaaTreeHeap
import Derived.Test.YtgcedfpjgdeakaaHelpInt
namespace Go.Proofs.Ytgcedfpjgdeakaa
open Go.RowKit
set_option linter.all false

/-- The stack of depths over a list of trees, its top first. -/
def dstk : List Bool → List Nat
  | [] => []
  | false :: l => 0 :: dstk l
  | true :: l => match dstk l with
    | a :: b :: r => (1 + max a b) :: r
    | r => r
theorem dstk_enc (x : T) : ∀ r, dstk (x.enc ++ r) = x.depth :: dstk r := by
  induction x with
  | nil => intro r; simp [T.enc, dstk, T.depth]
  | pair a b ha hb =>
    intro r
    simp only [T.enc, List.cons_append, List.append_assoc, dstk, ha, hb, T.depth]
theorem dstk_encs (ts : List T) : dstk (encs ts) = ts.map T.depth := by
  induction ts with
  | nil => rfl
  | cons t ts ih =>
    have : encs (t :: ts) = t.enc ++ encs ts := by simp [encs]
    rw [this, dstk_enc, ih]; rfl
theorem encs_tail {l : List Bool} {b : Bool} {ts : List T} (h : b :: l = encs ts) : ∃ ts', l = encs ts' ∧ (b = true → 2 ≤ ts'.length) := by
  cases ts with
  | nil => simp [encs] at h
  | cons t ts =>
    cases t with
    | nil =>
      simp [encs, T.enc] at h
      exact ⟨ts, by rw [h.2]; simp [encs], by rw [h.1]; simp⟩
    | pair x y =>
      simp [encs, T.enc] at h
      exact ⟨x :: y :: ts, by rw [h.2]; simp [encs], by intro _; simp⟩
theorem encs_drop {l : List Bool} {ts : List T} (h : l = encs ts) : ∀ k, ∃ ts', l.drop k = encs ts' := by
  intro k
  induction k with
  | zero => exact ⟨ts, by simpa using h⟩
  | succ k ih =>
    obtain ⟨ts', h'⟩ := ih
    rcases Nat.lt_or_ge k l.length with hk | hk
    · rw [List.drop_eq_getElem_cons hk] at h'
      obtain ⟨ts2, h2, _⟩ := encs_tail h'
      exact ⟨ts2, h2⟩
    · exact ⟨[], by rw [List.drop_of_length_le (by omega)]; rfl⟩
theorem dstk_two {x : T} {k : Nat} (h : x.enc[k]? = some true) : ∃ a b r, dstk (x.enc.drop (k + 1)) = a :: b :: r := by
  have hk := List.getElem?_eq_some_iff.1 h
  obtain ⟨ts, hts⟩ := encs_drop (l := x.enc) (ts := [x]) (by simp [encs]) k
  rw [List.drop_eq_getElem_cons hk.1, hk.2] at hts
  obtain ⟨ts2, h2, h3⟩ := encs_tail hts
  rw [h2, dstk_encs]
  match ts2, h3 rfl with
  | a :: b :: r, _ => exact ⟨_, _, _, rfl⟩
theorem dstk_false {l : List Bool} {k : Nat} (h : l[k]? = some false) : dstk (l.drop k) = 0 :: dstk (l.drop (k + 1)) := by
  have hk := List.getElem?_eq_some_iff.1 h
  rw [List.drop_eq_getElem_cons hk.1, hk.2]; rfl
theorem dstk_true {l : List Bool} {k : Nat} {a b : Nat} {r : List Nat} (h : l[k]? = some true) (h2 : dstk (l.drop (k + 1)) = a :: b :: r) : dstk (l.drop k) = (1 + max a b) :: r := by
  have hk := List.getElem?_eq_some_iff.1 h
  rw [List.drop_eq_getElem_cons hk.1, hk.2]; simp [dstk, h2]
theorem dstk_le (l : List Bool) : (dstk l).length ≤ l.length ∧ ∀ d ∈ dstk l, d ≤ l.length := by
  induction l with
  | nil => simp [dstk]
  | cons b l ih =>
    cases b with
    | false =>
      simp [dstk]
      exact ⟨ih.1, fun d hd => by have := ih.2 d hd; omega⟩
    | true =>
      simp only [dstk]
      split
      · rename_i a b r he
        rw [he] at ih
        simp at ih ⊢
        refine ⟨by omega, by omega, fun d hd => ?_⟩
        have := ih.2.2.2 d hd; omega
      · refine ⟨by simp; omega, fun d hd => ?_⟩
        have := ih.2 d hd
        simp; omega

def depthOf (t : List Bool) : Int × Int := if isTreeB t then (((dstk t).headD 0 : Nat), 0) else (0, 1)
theorem depthOf_enc (x : T) (h : x.nodes ≤ 2000) : depthOf x.enc = ((x.depth : Int), 0) := by
  unfold depthOf
  rw [if_pos ((isTree_iff _).2 ⟨by rw [T.length_enc]; exact h, x, rfl⟩)]
  have := dstk_enc x []
  rw [List.append_nil] at this
  rw [this]; rfl

theorem l21Is_is (b off n c : Nat) (t : List Bool) (v : Bool) (hv : isTreeB t = v) (w : World) (hs : Sl w b off (t.map .bool)) (hl : t.length = n) (hn : n ≤ 4194304) :
    Calls Try.prog 54 #[.slice (some ⟨b, off, none⟩) n c] w fun e w' => e = .returned (.bool v) ∧ w = w' := by
  subst hv; exact l21Is_any b off n c t w hs hl hn
theorem isTree_is (b off n c : Nat) (t : List Bool) (v : Bool) (hv : isTreeB t = v) (w : World) (hs : Sl w b off (t.map .bool)) (hl : t.length = n) (hn : n ≤ 4194304) :
    Calls Try.prog 93 #[.slice (some ⟨b, off, none⟩) n c] w fun e w' => e = .returned (.bool v) ∧ w = w' := by
  subst hv; exact isTree_any b off n c t w hs hl hn

def stkV (l : List Nat) : List Value := l.reverse.map fun d : Nat => Value.int .i64 (d : Int)
theorem own_cut {w : World} {base : Nat} {e : TypeId} {size g n cap m : Nat} {xs : List Value} (h : w.ownsRow base e size (.slice (some ⟨g, 0, none⟩) n cap) n xs) (hm : m ≤ n) : w.ownsRow base e size (.slice (some ⟨g, 0, none⟩) m cap) m (xs.take (m * size)) := by
  rcases h.2 with ⟨h', _⟩ | ⟨g', cap', cur, hv, hb, hh, hnc, hcm, hcs, htk⟩
  · cases h'
  · obtain ⟨rfl, rfl⟩ : g = g' ∧ cap = cap' := by simpa using hv
    have hle : m * size ≤ n * size := Nat.mul_le_mul_right _ hm
    refine ⟨by rw [List.length_take, h.1]; omega, .inr ⟨g, cap, cur, rfl, hb, hh, by omega, hcm, hcs, ?_⟩⟩
    rw [← htk, List.take_take]
    congr 1
    omega
