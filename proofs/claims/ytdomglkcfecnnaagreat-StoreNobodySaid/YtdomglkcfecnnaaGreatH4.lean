/- Walks: the tables of package width. -/
import Derived.Test.YtdomglkcfecnnaaGreatH3
import Derived.RangeFuncNested
import Derived.RangeFuncBound
import Derived.RangeFuncCalls
import Derived.RangeFuncLeaves
import Derived.RangeFuncBox
import Derived.RangeFuncFrom
import Derived.Shelf.Abstract
import Derived.Shelf.RegionOpen
import Derived.OwnWalkIn
import Derived.TacticsInMore
import Derived.LoopNIn
import Derived.LoopIn
import Derived.Great.BuildSlice
namespace Go.Proofs.YtdomglkcfecnnaaGreat
open Go.RowKit Go.Shelf
def marksL : List Int := [768, 879, 1155, 1161, 1425, 1469, 1471, 1471, 1473, 1474, 1476, 1477, 1479, 1479, 1552, 1562, 1611, 1631, 1648, 1648, 1750, 1756, 1759, 1764, 1767, 1768, 1770, 1773, 3633, 3633, 3636, 3642, 3655, 3662, 6832, 6911, 7616, 7679, 8203, 8207, 8288, 8292, 8400, 8432, 12330, 12333, 12441, 12442, 65024, 65039, 65056, 65071, 65279, 65279, 917760, 917999]
def widesL : List Int := [4352, 4447, 8986, 8987, 9001, 9002, 9193, 9196, 9200, 9200, 9203, 9203, 9725, 9726, 9748, 9749, 9800, 9811, 9855, 9855, 9875, 9875, 9889, 9889, 9898, 9899, 9917, 9918, 9924, 9925, 9934, 9934, 9940, 9940, 9962, 9962, 9970, 9971, 9973, 9973, 9978, 9978, 9981, 9981, 9989, 9989, 9994, 9995, 10024, 10024, 10060, 10060, 10062, 10062, 10067, 10069, 10071, 10071, 10133, 10135, 10160, 10160, 10175, 10175, 11035, 11036, 11088, 11088, 11093, 11093, 11904, 12350, 12353, 19903, 19968, 42191, 43360, 43391, 44032, 55203, 63744, 64255, 65040, 65049, 65072, 65135, 65281, 65376, 65504, 65510, 127744, 128591, 128640, 128767, 129280, 129535, 129648, 129791, 131072, 196605, 196608, 262141]
def i32s (l : List Int) : Array Value := (l.map (Value.int .i32)).toArray
/-- A row of numbers in memory. -/
def I32At (w : World) (b : Nat) (l : List Int) : Prop := w.heap[b]? = some (.cells (i32s l) 21 (0, 0))
theorem I32At.lt {w : World} {b : Nat} {l : List Int} (h : I32At w b l) : b < w.heap.size := (Array.getElem?_eq_some_iff.1 h).1
theorem I32At.kept {w w' : World} {b n : Nat} {l : List Int} (h : I32At w b l) (hb : b < n) (hB : Below n w w') : I32At w' b l := (hB.block b hb).trans h
theorem I32At.get {w : World} {b : Nat} {l : List Int} (h : I32At w b l) (j : Nat) (hj : j < l.length) : w.cell? ⟨b, j, none⟩ = some (.int .i32 (l.getD j 0)) := by
  unfold I32At i32s at h
  have : ((l.map (Value.int .i32)).toArray)[j]? = some (.int .i32 (l.getD j 0)) := by
    rw [List.getElem?_toArray, List.getElem?_map, List.getElem?_eq_getElem hj, List.getD_eq_getElem?_getD, List.getElem?_eq_getElem hj]; rfl
  simpa [World.cell?, h] using this
set_option maxRecDepth 100000 in
theorem wmarks (w : World) : Calls Tryz.prog 162 #[] w fun e w' => e = .returned (.slice (some ⟨w.heap.size, 0, none⟩) 56 56) ∧ w' = w.alloc (.cells (i32s marksL) 21) := by
  go_enter Tryz.func162, Tryz.ntmps162
  go_wp2_with (with_reducible refine wpList_buildFlat rfl 238 21 56 _ rfl .i32 marksL Tryz.underlying238 (by kernel_rfl) (by kernel_rfl) (by kernel_rfl) (by decide) (by decide) (by kernel_rfl) ?_)
  go_ret
  exact ⟨rfl, rfl⟩
set_option maxRecDepth 100000 in
theorem wwides (w : World) : Calls Tryz.prog 160 #[] w fun e w' => e = .returned (.slice (some ⟨w.heap.size, 0, none⟩) 102 102) ∧ w' = w.alloc (.cells (i32s widesL) 21) := by
  go_enter Tryz.func160, Tryz.ntmps160
  go_wp2_with (with_reducible refine wpList_buildFlat rfl 238 21 102 _ rfl .i32 widesL Tryz.underlying238 (by kernel_rfl) (by kernel_rfl) (by kernel_rfl) (by decide) (by decide) (by kernel_rfl) ?_)
  go_ret
  exact ⟨rfl, rfl⟩
theorem wpairs (x : Option Addr) (n c : Nat) (w : World) : Calls Tryz.prog 159 #[.slice x n c] w fun e w' => e = .returned (.func (.func 163) #[] #[.pointer (some ⟨w.heap.size, 0, none⟩)]) ∧ w' = w.alloc (.cells #[.slice x n c] 238) := by
  go_enter Tryz.func159, Tryz.ntmps159
  go_wp2
  go_ret
  exact ⟨rfl, rfl⟩
/-- What stands behind Marks and Wides: the row, and the iterator's own box. -/
def SeqAt (l : List Int) (w : World) (e : Ending) (w' : World) : Prop := ∃ p q, e = .returned (.func (.func 163) #[] #[.pointer (some ⟨p, 0, none⟩)]) ∧ w'.heap[p]? = some (.cells #[.slice (some ⟨q, 0, none⟩) l.length l.length] 238 (0, 0)) ∧ I32At w' q l ∧ w.heap.size ≤ p ∧ w.heap.size ≤ q ∧ Below w.heap.size w w'
theorem wMarks (w : World) : Calls Tryz.prog 158 #[] w (SeqAt marksL w) := by
  go_enter Tryz.func158, Tryz.ntmps158
  go_wp2_with (first | (go_at_call 162; (with_reducible refine (wmarks _).mono ?_); rintro e w1 ⟨rfl, rfl⟩) | (go_at_call 159; fail))
  go_at_call 159
  refine (wpairs _ _ _ _).mono ?_
  rintro e w2 ⟨rfl, rfl⟩
  go_wp2
  go_ret
  exact ⟨w.heap.size + 1, w.heap.size, by simp, by rw [show marksL.length = 56 from rfl]; simpa using heap_alloc_new (w.alloc (.cells (i32s marksL) 21)) (.cells #[.slice (some ⟨w.heap.size, 0, none⟩) 56 56] 238), (heap_alloc_old _ _ (by simp)).trans (heap_alloc_new _ _), by omega, by omega, ((Below.refl _ _).alloc (Nat.le_refl _) _).alloc (by simp) _⟩
theorem wWides (w : World) : Calls Tryz.prog 155 #[] w (SeqAt widesL w) := by
  go_enter Tryz.func155, Tryz.ntmps155
  go_wp2_with (first | (go_at_call 160; (with_reducible refine (wwides _).mono ?_); rintro e w1 ⟨rfl, rfl⟩) | (go_at_call 159; fail))
  go_at_call 159
  refine (wpairs _ _ _ _).mono ?_
  rintro e w2 ⟨rfl, rfl⟩
  go_wp2
  go_ret
  exact ⟨w.heap.size + 1, w.heap.size, by simp, by rw [show widesL.length = 102 from rfl]; simpa using heap_alloc_new (w.alloc (.cells (i32s widesL) 21)) (.cells #[.slice (some ⟨w.heap.size, 0, none⟩) 102 102] 238), (heap_alloc_old _ _ (by simp)).trans (heap_alloc_new _ _), by omega, by omega, ((Below.refl _ _).alloc (Nat.le_refl _) _).alloc (by simp) _⟩
end Go.Proofs.YtdomglkcfecnnaaGreat
