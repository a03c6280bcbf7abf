/- Walks: the reference's tables of ranges. -/
import Derived.Test.YtbaljpamhmbcjaaK6
namespace Go.Proofs.Ytbaljpamhmbcjaa
open Go.RowKit Go.Shelf
def RngAt (w : World) (b : Nat) (l : List Int) : Prop := w.heap[b]? = some (.cells (i32s l) 133 (0, 0))
set_option maxRecDepth 100000 in
set_option maxHeartbeats 4000000 in
theorem rMarks (w : World) : Calls Try.prog 94 #[] w fun e w' => e = .returned (.slice (some ⟨w.heap.size, 0, none⟩) 28 28) ∧ w' = w.alloc (.cells (i32s marksL) 133) := by
  go_enter Try.func94, Try.ntmps94
  go_wp2
  go_ret
  exact ⟨rfl, rfl⟩
set_option maxRecDepth 100000 in
set_option maxHeartbeats 4000000 in
theorem rWides (w : World) : Calls Try.prog 95 #[] w fun e w' => e = .returned (.slice (some ⟨w.heap.size, 0, none⟩) 51 51) ∧ w' = w.alloc (.cells (i32s widesL) 133) := by
  go_enter Try.func95, Try.ntmps95
  go_wp2
  go_ret
  exact ⟨rfl, rfl⟩
end Go.Proofs.Ytbaljpamhmbcjaa
