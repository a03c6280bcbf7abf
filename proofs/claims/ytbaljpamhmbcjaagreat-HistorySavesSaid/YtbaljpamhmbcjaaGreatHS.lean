/- Plain facts on the example's lines. -/
import Derived.Test.YtbaljpamhmbcjaaGreatHR
namespace Go.Proofs.YtbaljpamhmbcjaaGreat
open Go.RowKit Go.Shelf
theorem ex_flat1 : flatS [108, 115] = [108, 115] := by kernel_rfl
theorem ex_flat2 : flatS [99, 97, 116, 32, 120] = [99, 97, 116, 32, 120] := by kernel_rfl
theorem ex_flat3 : flatS [99, 100] = [99, 100] := by kernel_rfl
theorem ex_may1 : mayS [108, 115] = true := by kernel_rfl
theorem ex_may2 : mayS [99, 97, 116, 32, 120] = true := by kernel_rfl
theorem ex_may3 : mayS [99, 100] = true := by kernel_rfl
theorem ex_add1 : addL 5 [] (flatS [108, 115]) = (true, [[108, 115]]) := by rw [ex_flat1]; unfold addL; rw [if_pos ⟨ex_may1, by decide⟩]; rfl
theorem ex_add2 : addL 5 [[108, 115]] (flatS [99, 97, 116, 32, 120]) = (true, [[99, 97, 116, 32, 120], [108, 115]]) := by rw [ex_flat2]; unfold addL; rw [if_pos ⟨ex_may2, by decide⟩]; rfl
theorem ex_add3 : addL 5 [[99, 97, 116, 32, 120], [108, 115]] (flatS [99, 100]) = (true, [[99, 100], [99, 97, 116, 32, 120], [108, 115]]) := by rw [ex_flat3]; unfold addL; rw [if_pos ⟨ex_may3, by decide⟩]; rfl
def exL : List Bs := [[99, 100], [99, 97, 116, 32, 120], [108, 115]]
theorem ex_older1 : olderS exL Wk.no [100, 114] [99] = (⟨true, [100, 114], [99], 0⟩, [99, 100], true) := by kernel_rfl
theorem ex_older2 : olderS exL ⟨true, [100, 114], [99], 0⟩ [] [] = (⟨true, [100, 114], [99], 1⟩, [99, 97, 116, 32, 120], true) := by kernel_rfl
theorem ex_older3 : olderS exL ⟨true, [100, 114], [99], 1⟩ [] [] = (⟨true, [100, 114], [99], 1⟩, [], false) := by kernel_rfl
theorem ex_newer1 : newerS exL ⟨true, [100, 114], [99], 1⟩ = (⟨true, [100, 114], [99], 0⟩, [99, 100], true) := by kernel_rfl
theorem ex_newer2 : newerS exL ⟨true, [100, 114], [99], 0⟩ = (Wk.no, [100, 114], true) := by kernel_rfl
theorem ex_save : saveS exL = [108, 115, 10, 99, 97, 116, 32, 120, 10, 99, 100, 10] := by kernel_rfl
end Go.Proofs.YtbaljpamhmbcjaaGreat
