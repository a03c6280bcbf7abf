/- Walks: the reference's Fold; cut and Clusters. -/
import Derived.Test.YtdehjofmangmbaaF3
import Derived.Deep.Onto
namespace Go.Proofs.Ytdehjofmangmbaa
open Go.RowKit Go.Shelf
/-- What cut gives. -/
def ClEnd (l : Bs) (w : World) (e : Ending) (w' : World) : Prop := ∃ v, e = .returned v ∧ w'.ownsRow w.heap.size 9 1 v (clS l).length (strs (clS l)) ∧ Below w.heap.size w w'
theorem wcl (l : Bs) (hl : l.length ≤ 10000) (w : World) : Calls Try.prog 10 #[.string (tx l)] w (ClEnd l w) := by
  have HF := Lib.hid (fun W => wfold l hl W)
  have HC := Lib.hid (fun W => wcutS (foldS l) (by have := foldS_len l; omega) W)
  unfold CutEnd at HC
  unfold ClEnd
  have HV : Hid (clS l = cutS (foldS l)) := Lib.hid rfl
  rw [← HV.out] at HC
  clear HV
  generalize tx l = T at HF ⊢
  generalize tx (foldS l) = U at HF HC
  go_enter Try.func10, Try.ntmps10
  go_wp2_with (first | (go_at_call 15; fail))
  go_at_call 15
  refine (HF.out _).mono ?_
  rintro e w1 ⟨rfl, hb1⟩
  have HB1 := Lib.hid hb1
  clear hb1
  go_wp2_with (first | (go_at_call 17; fail))
  go_at_call 17
  refine (HC.out _).mono ?_
  rintro e w2 ⟨v, rfl, hv, hb2⟩
  have HR := Lib.hid (World.ownsRow.mono hv HB1.out.size)
  have HB2 := Lib.hid (HB1.out.trans (below_le hb2 HB1.out.size))
  clear hv hb2
  go_wp2
  go_ret
  exact ⟨v, rfl, HR.out, HB2.out⟩
end Go.Proofs.Ytdehjofmangmbaa
