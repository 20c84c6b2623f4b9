/- The list of a tree: the reference's l21Items, the program's listOfTree; NumberOfTree on both sides. -/
import Derived.Test.YtgcedfpjgdeakaaTreeHeap
import Derived.Test.YtgcedfpjgdeakaaTreeDepth
import Derived.Test.YtgcedfpjgdeakaaTreeParse
import Derived.Test.YtgcedfpjgdeakaaInBoolS
import Derived.Deep.LoopGhost
namespace Go.Proofs.Ytgcedfpjgdeakaa
open Go.RowKit
set_option linter.all false

theorem endAt_enc {t : List Bool} {k : Nat} {a : T} {r : List Bool} (h : t.drop k = a.enc ++ r) : endAt t k = (t.length - r.length, true) := by
  unfold endAt
  rw [h, scan_one_enc]
/-- Where the tree a, which stands at place k of t, ends. -/
theorem l21End_enc (b off n c k0 : Nat) (t : List Bool) (a : T) (r : List Bool) (w : World) (hd : t.drop k0 = a.enc ++ r) (hs : Sl w b off (t.map .bool)) (hl : t.length = n) (hn : n ≤ 4194304) (hk0 : k0 ≤ n) :
    Calls Try.prog 89 #[.slice (some ⟨b, off, none⟩) n c, .int .i64 k0] w fun e w' => e = .returned (.tuple #[.int .i64 ((k0 + a.nodes : Nat) : Int), .bool true]) ∧ w = w' := by
  have h := l21End_any b off n c k0 t w hs hl hn hk0
  have e : endAt t k0 = (k0 + a.nodes, true) := by
    rw [endAt_enc hd]
    have := congrArg List.length hd
    rw [List.length_drop, List.length_append, T.length_enc] at this
    congr 1
    omega
  rw [e] at h
  exact h

theorem l21Own_any (v0 : Value) (n : Nat) (t : List Bool) (w : World) (hsrc : Src 1 w v0 n (t.map .bool)) (hn : n ≤ 4194304) :
    Calls Try.prog 90 #[v0] w fun e w' => ∃ v, e = .returned v ∧ w'.ownsRow w.heap.size 4 1 v n (t.map .bool) ∧ Below w.heap.size w w' := by
  have hown0 : (w.alloc (.cells #[] 4)).ownsRow w.heap.size 4 1 (.slice (some ⟨w.heap.size, 0, none⟩) 0 0) 0 [] := World.ownsRow_made _ #[] 0 (Nat.le_refl _) (by simp [maxLen]) rfl
  have hb0 := laid_below w (.cells #[] 4)
  have hs0 := hsrc.below hb0
  have HO := Lib.hid (one_bools t)
  go_enter Try.func90, Try.ntmps90
  go_wp2_with (at_builtin; refine wpList_appx rfl _ _ _ rfl Try.underlying26 infoBoolS rfl (by omega) w.heap.size hown0 hb0.size rfl hs0 rfl HO.out (by unfold maxLen; omega) (by omega) ?_; intro v1 w1 hown1 hg1 hnil1; have hb1 := grown_below hb0 hown0 (Nat.le_refl _) hg1)
  go_ret
  exact ⟨_, rfl, by simpa using hown1, hb1⟩

theorem infoBoolSS' : (Try.prog.info? 26).map (fun i => (i.zero, i.size, i.bytes)) = some (some (.slice none 0 0), 1, 24) := by kernel_rfl

/-- The rows of lists of nodes. -/
def bRows (ts : List T) : List (Nat × List Value) := itsOf oneB (ts.map T.enc)
theorem bRows_snoc (ts : List T) (a : T) : bRows (ts ++ [a]) = bRows ts ++ [(a.nodes, a.enc.map .bool)] := by
  unfold bRows itsOf
  rw [List.map_append, List.map_append]
  congr 1
  show [(a.enc.length, rows oneB a.enc)] = _
  rw [T.length_enc, rows_oneB]

/-- A list of trees in the making. -/
structure Items (lo : Nat) (v : Value) (ts : List T) (us : List Value) (w : World) : Prop where
  own : w.ownsRow lo 26 1 v ts.length us
  inn : Inn 1 4 lo w.heap.size us (bRows ts) w
