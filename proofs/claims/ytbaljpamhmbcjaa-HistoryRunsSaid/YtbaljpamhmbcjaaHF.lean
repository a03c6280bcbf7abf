/- Walks: the methods of a history that nobody made. -/
import Derived.Test.YtbaljpamhmbcjaaHE
namespace Go.Proofs.Ytbaljpamhmbcjaa
open Go.RowKit Go.Shelf
/-- A history that is not made. -/
def Unmade (p : Option Addr) (w : World) : Prop := p = none ∨ ∃ b m, p = some ⟨b, 0, none⟩ ∧ w.cell? ⟨b, 0, none⟩ = some (.int .i64 m) ∧ m ≤ 0 ∧ b < w.heap.size
theorem wmadeN {p : Option Addr} {w : World} (h : Unmade p w) : Calls Try.prog 32 #[.pointer p] w fun e w' => e = .returned (.bool false) ∧ w = w' := by
  rcases h with rfl | ⟨b, m, rfl, hc, hm, _⟩
  · exact wmade0 w
  · have := wmade b m w hc
    rw [decide_eq_false (by omega)] at this
    exact this
theorem unAdd (p : Option Addr) (s : ByteArray) (w : World) (h : Unmade p w) : Calls Try.prog 27 #[.pointer p, .string s] w fun e w' => e = .returned (.bool false) ∧ w = w' := by
  have HM := Lib.hid (wmadeN h)
  clear h
  go_enter Try.func27, Try.ntmps27
  go_wp2_with (first | (go_at_call 32; (with_reducible refine HM.out.mono ?_); rintro e w' ⟨rfl, rfl⟩))
  go_ret
  exact ⟨rfl, rfl⟩
theorem unOlder (p : Option Addr) (s t : ByteArray) (w : World) (h : Unmade p w) : Calls Try.prog 25 #[.pointer p, .string s, .string t] w fun e w' => e = .returned (.tuple #[.string ⟨#[]⟩, .bool false]) ∧ Below w.heap.size w w' := by
  have HM := Lib.hid (wmadeN h)
  clear h
  go_enter Try.func25, Try.ntmps25
  go_wp2_with (first | (go_at_call 32; (with_reducible refine HM.out.mono ?_); rintro e w' ⟨rfl, rfl⟩))
  go_ret2
  exact ⟨rfl, Below.refl _ _⟩
theorem unNewer (p : Option Addr) (w : World) (h : Unmade p w) : Calls Try.prog 14 #[.pointer p] w fun e w' => e = .returned (.tuple #[.string ⟨#[]⟩, .bool false]) ∧ Below w.heap.size w w' := by
  have HM := Lib.hid (wmadeN h)
  clear h
  go_enter Try.func14, Try.ntmps14
  go_wp2_with (first | (go_at_call 32; (with_reducible refine HM.out.mono ?_); rintro e w' ⟨rfl, rfl⟩))
  go_ret2
  exact ⟨rfl, Below.refl _ _⟩
theorem unLine (p : Option Addr) (i : Int) (w : World) (h : Unmade p w) : Calls Try.prog 26 #[.pointer p, .int .i64 i] w fun e w' => e = .returned (.tuple #[.string ⟨#[]⟩, .bool false]) ∧ Below w.heap.size w w' := by
  have HM := Lib.hid (wmadeN h)
  clear h
  go_enter Try.func26, Try.ntmps26
  go_wp2_with (first | (go_at_call 32; (with_reducible refine HM.out.mono ?_); rintro e w' ⟨rfl, rfl⟩))
  go_ret2
  exact ⟨rfl, Below.refl _ _⟩
theorem unLeave (p : Option Addr) (w : World) (h : Unmade p w) : Calls Try.prog 28 #[.pointer p] w fun e w' => e = .returned (.bool false) ∧ w = w' := by
  have HM := Lib.hid (wmadeN h)
  clear h
  go_enter Try.func28, Try.ntmps28
  go_wp2_with (first | (go_at_call 32; (with_reducible refine HM.out.mono ?_); rintro e w' ⟨rfl, rfl⟩))
  go_ret
  exact ⟨rfl, rfl⟩
theorem unLen (p : Option Addr) (w : World) (h : Unmade p w) : Calls Try.prog 21 #[.pointer p] w fun e w' => e = .returned (.int .i64 0) ∧ w = w' := by
  have HM := Lib.hid (wmadeN h)
  clear h
  go_enter Try.func21, Try.ntmps21
  go_wp2_with (first | (go_at_call 32; (with_reducible refine HM.out.mono ?_); rintro e w' ⟨rfl, rfl⟩))
  go_ret
  exact ⟨rfl, rfl⟩
theorem unFork (p : Option Addr) (w : World) (h : Unmade p w) : Calls Try.prog 29 #[.pointer p] w fun e w' => e = .returned (.pointer none) ∧ w = w' := by
  have HM := Lib.hid (wmadeN h)
  clear h
  go_enter Try.func29, Try.ntmps29
  go_wp2_with (first | (go_at_call 32; (with_reducible refine HM.out.mono ?_); rintro e w' ⟨rfl, rfl⟩))
  go_ret
  exact ⟨rfl, rfl⟩
end Go.Proofs.Ytbaljpamhmbcjaa
