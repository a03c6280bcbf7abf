/- A key that comes in as an argument. -/
import Derived.Test.YthkcfdnenbboaaaK20
import Derived.Deep.Fields
import Derived.ChangeSame
import Derived.Lib.SmallJoins
namespace Go.Proofs.Ythkcfdnenbboaaa
open Go.RowKit Go.Shelf Go.ChangeShapes Go.WideShapes Go.Deep
set_option maxRecDepth 100000 in
theorem key_cells {H : Type} {enc : TypeId × Value → H} {w : World} {base : Nat} {spare : Nat → Bool} {held : Bool} {fuel : Nat} {l : List Value} {x : DataW H × List MemPlace} (hl : l.length = 6) (hf : DataW.trod enc Try.prog w base spare held fuel 27 l = some x) :
    ∃ k : Ky, l = (kyCells k).toList ∧ k.Wide := by
  obtain ⟨xs, n, _, _, _, hxl, hg⟩ := DataW.trod_struct Try.underlying27 hf
  match l, hl with
  | [c0, c1, c2, c3, c4, c5], _ =>
    have z : ∀ i, i < 6 → ∃ y, xs[i]? = some y := fun i hi => ⟨xs[i]'(by rw [hxl]; exact hi), List.getElem?_eq_getElem _⟩
    obtain ⟨y0, e0⟩ := z 0 (by omega)
    obtain ⟨y1, e1⟩ := z 1 (by omega)
    obtain ⟨y2, e2⟩ := z 2 (by omega)
    obtain ⟨y3, e3⟩ := z 3 (by omega)
    obtain ⟨y4, e4⟩ := z 4 (by omega)
    obtain ⟨y5, e5⟩ := z 5 (by omega)
    have k24 : Try.prog.cellsOf 24 = 1 := by kernel_rfl
    have k9 : Try.prog.cellsOf 9 = 1 := by kernel_rfl
    have k3 : Try.prog.cellsOf 3 = 1 := by kernel_rfl
    have k4 : Try.prog.cellsOf 4 = 1 := by kernel_rfl
    have g0 := (hg 0 ⟨"Code", 24, 0, false, "", "", 0⟩ rfl).trans e0
    have g1 := (hg 1 ⟨"S", 9, 1, false, "", "", 8⟩ rfl).trans e1
    have g2 := (hg 2 ⟨"N", 3, 2, false, "", "", 24⟩ rfl).trans e2
    have g3 := (hg 3 ⟨"Alt", 4, 3, false, "", "", 32⟩ rfl).trans e3
    have g4 := (hg 4 ⟨"Shift", 4, 4, false, "", "", 33⟩ rfl).trans e4
    have g5 := (hg 5 ⟨"Ctl", 4, 5, false, "", "", 34⟩ rfl).trans e5
    simp only [k24] at g0
    simp only [k9] at g1
    simp only [k3] at g2
    simp only [k4] at g3 g4 g5
    obtain ⟨a0, q0, _, w0⟩ := DataW.trod_int Try.underlying24 g0
    obtain ⟨a1, q1, _, w1⟩ := DataW.trod_string Try.underlying9 g1
    obtain ⟨a2, q2, _, w2⟩ := DataW.trod_int Try.underlying3 g2
    obtain ⟨a3, q3, _⟩ := DataW.trod_bool Try.underlying4 g3
    obtain ⟨a4, q4, _⟩ := DataW.trod_bool Try.underlying4 g4
    obtain ⟨a5, q5, _⟩ := DataW.trod_bool Try.underlying4 g5
    refine ⟨⟨a0, a1, a2, a3, a4, a5⟩, ?_, ?_, ?_, w1⟩
    · simp at q0 q1 q2 q3 q4 q5
      simp [kyCells, q0, q1, q2, q3, q4, q5]
    · simp [Lit.wf, IntKind.min, IntKind.max, IntKind.signed, IntKind.bits] at w0
      simp only []
      omega
    · simp [Lit.wf, IntKind.min, IntKind.max, IntKind.signed, IntKind.bits] at w2
      simp only []
      omega
set_option maxRecDepth 100000 in
theorem key_of_arg {H : Type} {enc : TypeId × Value → H} {w : World} {r : Reach} {b0 base : Nat} {spare : Nat → Bool} {held : Bool} {v : Value} {d : DataW H} {p : List MemPlace} (hv : Value.okWide Try.prog w r b0 27 v) (h : DataW.Trod enc Try.prog w base spare held 27 v d p) :
    ∃ k : Ky, v = k.v ∧ k.Wide := by
  obtain ⟨cs, rfl, hsz⟩ := okWide_struct Try.underlying27 hv
  obtain ⟨l⟩ := cs
  obtain ⟨fuel, hf⟩ := h
  obtain ⟨k, hk, hw⟩ := key_cells (l := l) (hsz.trans (by kernel_rfl)) (by simpa [Value.cells] using hf)
  refine ⟨k, ?_, hw⟩
  rw [hk]
  rfl
end Go.Proofs.Ythkcfdnenbboaaa
