/- Walk: New of history. -/
import Derived.Test.YtbaljpamhmbcjaaGreatHE
namespace Go.Proofs.YtbaljpamhmbcjaaGreat
open Go.RowKit Go.Shelf
theorem wnewH (m : Int) (h1 : 1 ≤ m) (h2 : m ≤ 256) (w : World) : Calls Tryz.prog 11 #[.int .i64 m] w fun e w' => e = .returned (.tuple #[.pointer (some ⟨w.heap.size, 0, none⟩), .int .i64 0]) ∧ w' = w.alloc (.cells #[.int .i64 m, .slice none 0 0, .bool false, .string ⟨#[]⟩, .string ⟨#[]⟩, .int .i64 0] 45) := by
  have i1 : ¬ m < 1 := by omega
  have i2 : ¬ 256 < m := by omega
  go_enter Tryz.func11, Tryz.ntmps11
  go_wp2
  go_ret2
  exact ⟨rfl, rfl⟩
theorem wnewH_no (m : Int) (h : m < 1 ∨ 256 < m) (w : World) : Calls Tryz.prog 11 #[.int .i64 m] w fun e w' => e = .returned (.tuple #[.pointer none, .int .i64 140]) ∧ w = w' := by
  by_cases i1 : m < 1
  · go_enter Tryz.func11, Tryz.ntmps11
    go_wp2
    go_ret2
    exact ⟨rfl, rfl⟩
  · have i2 : 256 < m := by omega
    go_enter Tryz.func11, Tryz.ntmps11
    go_wp2
    go_ret2
    exact ⟨rfl, rfl⟩
end Go.Proofs.YtbaljpamhmbcjaaGreat
