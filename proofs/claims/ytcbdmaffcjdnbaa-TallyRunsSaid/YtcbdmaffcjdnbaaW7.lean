/- Walks: the page's example. -/
import Derived.Test.YtcbdmaffcjdnbaaW6
namespace Go.Proofs.Ytcbdmaffcjdnbaa
open Go.RowKit
def cellA : CellD := ⟨⟨#[97]⟩, 1, false, false, false, 0, 0⟩
abbrev AwakeW (w : World) : World := ((w.alloc (.cells #[.string ⟨#[97]⟩, .int .i64 1, .bool false, .bool false, .bool false, .int .i64 0, .int .i64 0] 70)).alloc (.cells #[.slice (some ⟨w.heap.size, 0, none⟩) 1 1] 66)).alloc
  (.cells #[.slice (some ⟨w.heap.size + 1, 0, none⟩) 1 1, .int .i64 0, .int .i64 0, .bool false] 24)
theorem awake_rows (w : World) : RowsV (AwakeW w) (some ⟨w.heap.size + 1, 0, none⟩) 1 1 [[cellA]] := by
  refine ⟨rfl, by omega, by omega, fun _ => ⟨_, _, rfl, by simp, fun i hi => ?_⟩⟩
  obtain rfl : i = 0 := by omega
  refine ⟨.slice (some ⟨w.heap.size, 0, none⟩) 1 1, by simp [go_sem], some ⟨w.heap.size, 0, none⟩, 1, 1, rfl, rfl, by omega, by omega, (fun h => by cases h), fun _ => ⟨_, _, rfl, by simp; omega, fun i hi => ?_⟩⟩
  obtain rfl : i = 0 := by omega
  simp [CellAt, go_sem, nth, cellA]
theorem nil_rows (w : World) : RowsV w none 0 0 [] := ⟨rfl, by omega, by omega, fun h => absurd h (by omega)⟩
theorem few_A : Few [[cellA]] := ⟨by simp, fun i => by unfold nth; cases i <;> simp [List.getD]⟩
theorem few_nil : Few [] := ⟨by simp, fun i => by simp [nth, List.getD]⟩
set_option maxHeartbeats 2000000 in
theorem awake_any (w : World) : Calls Try.prog 13 #[] w fun e w' => e = .returned (.bool true) ∧ Below w.heap.size w w' := by
  have b1 : bndN 10 5 = 6528 := by decide
  have b2 : bndE 10 5 = 0 := by decide
  have b3 : bndN 0 5 = 0 := by decide
  have b4 : bndE 0 5 = 330 := by decide
  have d1 : differ [[cellA]] [] = 1 := by decide
  have d2 : differ [[cellA]] [[cellA]] = 0 := differ_self _
  have hA := Lib.hid (awake_rows w)
  go_enter Try.func13, Try.ntmps13
  go_wp2_with (first | (go_at_call 7; refine (tbound _ _ _).mono ?_; rintro e w' ⟨rfl, rfl⟩))
  refine (tdiffer _ _ _ _ _ _ _ _ _ _ _ _ [[cellA]] [] _ hA.out (nil_rows _) few_A few_nil).mono ?_
  rintro e w1 ⟨rfl, hb1⟩
  have hr1 := Lib.hid (hA.out.mono hb1)
  have hsz1 : w.heap.size + 3 ≤ w1.heap.size := by have := hb1.size; simpa using this
  obtain ⟨hc1, _⟩ := bcell hb1
  have HB1 := Lib.hid hb1
  clear hb1
  go_wp2_with fail
  refine (tdiffer _ _ _ _ _ _ _ _ _ _ _ _ [[cellA]] [[cellA]] _ hr1.out hr1.out few_A few_A).mono ?_
  rintro e w2 ⟨rfl, hb2⟩
  have HB2 := Lib.hid hb2
  clear hb2 hc1
  go_wp2_with fail
  go_ret
  exact ⟨rfl, ((((Below.refl _ _).alloc (Nat.le_refl _) _).alloc (by simp) _).alloc (by simp; omega) _).trans ((HB1.out.mono (by simp; omega)).trans (HB2.out.mono (by omega)))⟩
end Go.Proofs.Ytcbdmaffcjdnbaa
