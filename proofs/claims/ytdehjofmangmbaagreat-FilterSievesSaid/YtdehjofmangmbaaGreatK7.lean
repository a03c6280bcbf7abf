/- Walks: the reference's tables of ranges. -/
import Derived.Test.YtdehjofmangmbaaGreatK6
namespace Go.Proofs.YtdehjofmangmbaaGreat
open Go.RowKit Go.Shelf
def RngAt (w : World) (b : Nat) (l : List Int) : Prop := w.heap[b]? = some (.cells (i32s l) 139 (0, 0))
set_option maxRecDepth 100000 in
set_option maxHeartbeats 4000000 in
theorem rMarks (w : World) : Calls Tryz.prog 97 #[] w fun e w' => e = .returned (.slice (some ⟨w.heap.size, 0, none⟩) 28 28) ∧ w' = w.alloc (.cells (i32s marksL) 139) := by
  go_enter Tryz.func97, Tryz.ntmps97
  go_wp2
  go_ret
  exact ⟨rfl, rfl⟩
set_option maxRecDepth 100000 in
set_option maxHeartbeats 4000000 in
theorem rWides (w : World) : Calls Tryz.prog 98 #[] w fun e w' => e = .returned (.slice (some ⟨w.heap.size, 0, none⟩) 51 51) ∧ w' = w.alloc (.cells (i32s widesL) 139) := by
  go_enter Tryz.func98, Tryz.ntmps98
  go_wp2
  go_ret
  exact ⟨rfl, rfl⟩
end Go.Proofs.YtdehjofmangmbaaGreat
