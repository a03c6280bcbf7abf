/- Runs: the law's walk, whole. -/
import Derived.Test.YtcbdmaffcjdnbaaS20
namespace Go.Proofs.Ytcbdmaffcjdnbaa
open Go.ChangeShapes Go.WideShapes Go.ChangeAt Go.RowKit
theorem runs_any (W H : Int) (x : Option Addr) (n cap : Nat) (os : List OpD) (w : World) (hx : OpsV w x n os) : Calls Try.prog 5 #[.int .i64 W, .int .i64 H, .slice x n cap] w fun e w' => e = .returned (.bool true) ∧ Below w.heap.size w w' := by
  rcases bndE_or W H with q | q
  · exact runs_good W H x n cap os w hx q
  · exact runs_bad W H x n cap w hx.2.1 q
theorem ops_of_arg {H : Type} {enc : TypeId × Value → H} {w : World} {r : Reach} {b0 base : Nat} {spare : Nat → Bool} {held : Bool} {v : Value} {d : DataW H} {p : List MemPlace} (hv : Value.okWide Try.prog w r b0 52 v) (h : DataW.Trod enc Try.prog w base spare held 52 v d p) :
    ∃ a n cap os, v = .slice a n cap ∧ OpsV w a n os := by
  obtain ⟨a, n, cap, rfl⟩ := okWide_slice Try.underlying52 hv
  obtain ⟨fuel, hf⟩ := h
  obtain ⟨a', n', cap', os, e, ho⟩ := ops_of_trod (v := .slice a n cap) (by simpa [Value.cells] using hf)
  cases e
  exact ⟨a, n, cap, os, rfl, ho⟩
end Go.Proofs.Ytcbdmaffcjdnbaa
