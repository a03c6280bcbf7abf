/- Walk: Find of a made history. -/
import Derived.Test.YtbaljpamhmbcjaaGreatHX
namespace Go.Proofs.YtbaljpamhmbcjaaGreat
open Go.RowKit Go.Shelf
attribute [local go_sem] Oper.semAt_some
/-- The library's variable, of which all that is known is that it holds a number. -/
def MaxLn (w : World) : Prop := ∃ m, w.cell? ⟨0, 0, none⟩ = some (.int .i64 m)
theorem MaxLn.lt {w : World} (h : MaxLn w) : 0 < w.heap.size := by
  obtain ⟨m, h⟩ := h
  rcases Nat.eq_zero_or_pos w.heap.size with q | q
  · have : w.heap = #[] := Array.size_eq_zero_iff.1 q
    simp [World.cell?, this] at h
  · exact q
theorem MaxLn.kept {w w' : World} (h : MaxLn w) {n : Nat} (hn : 0 < n) (hb : Below n w w') : MaxLn w' := by
  obtain ⟨m, h⟩ := h
  exact ⟨m, (hb.cell (p := ⟨0, 0, none⟩) hn).trans h⟩
end Go.Proofs.YtbaljpamhmbcjaaGreat
