/- The closing frame's own words: a wrap that keeps the world's shape and what the row lists; a style that comes in as an argument. -/
import Derived.Test.YtlhfdpeidlbomaaDoorTG
import Derived.Test.YtlhfdpeidlbomaaDoorRows
import Derived.Handed
import Derived.Shelf.Vars
import Derived.Deep.Fields
import Derived.ChangeSame
import Derived.Lib.SmallJoins
import Derived.ProofKit
import Derived.OpenShut
namespace Go.Proofs.YtlhfdpeidlbomaaDoor
open Go.RowKit Go.ChangeShapes Go.WideShapes Go.Deep
variable {H : Type} {enc : TypeId × Value → H}
/-- The wrap of a row that lists variables, the world's shape kept. -/
theorem returns_laid {a : Assume} {C : Checked} {os : Os} {f : FuncId} {fn : Func} {s : ChangeSpec} {conds : List PathCond} {apart fresh handsOn again : Bool} {X : World → Array Value → Prop}
    (hX : ∀ (w w' : World) (args : Array Value), w.heap = w'.heap → X w args → X w' args)
    (own : ownKnob C.prog.godebug = none) (started : os.Started) (noInit : C.prog.inits.idxOf? f = none) (hfn : C.prog.funcs[f]? = some fn)
    (witness : ∃ (w : World) (tape : Tape) (i : Input), w.os = os ∧ (w.forCall tape i).Shaped C.prog ∧ i.vars = [] ∧ Input.okWide C.prog (w.forCall tape i) .any w.heap.size f i ∧
      ((s.pre enc C.prog fn conds apart (w.forCall tape i).memory i.args ∧ X (w.forCall tape i).memory i.args) ∧ sizedMet enc C.prog fn (OpenSpec.ofChange s) apart (w.forCall tape i).memory i.args) ∧ a.holds C.prog (lone (Frame.enter C.prog f i.args .normal) [] (w.forCall tape i)))
    (contract : ∀ (W : World) (base : Nat) (args : Array Value) (ds gs : List (DataW H)) (before : List MemPlace),
      (∀ (j : Nat) t v, fn.params[j]? = some t → args[j]? = some v → Value.okWide C.prog W .any base t v) →
      DataW.Whole enc C.prog fn.params.toList s.vars apart W args.toList ds gs before →
      (DataW.weightsEach C.prog (fn.params.toList ++ s.plain.varTypes C.prog) (ds ++ gs)).all (· ≤ reachBytes) = true → X W args → W.ShapedOpen C.prog →
      Calls C.prog f args W fun e W' => ∃ v, e = .returned v ∧ s.post enc C.prog fn apart fresh handsOn again W args v W') :
    ReturnsInHanded a C os f .any (fun w args => (s.pre enc C.prog fn conds apart w args ∧ X w args) ∧ sizedMet enc C.prog fn (OpenSpec.ofChange s) apart w args) (s.post enc C.prog fn apart fresh handsOn again) := by
  refine returnsInHanded_of_calls own started noInit witness ?_
  intro w tape i _ hsh _ hok hpre _
  obtain ⟨_, _, _, fn', hfn', _, _, _, _, hval⟩ := hok
  have e : fn' = fn := Option.some.inj (hfn'.symm.trans hfn)
  subst e
  obtain ⟨⟨⟨ds, gs, before, hw, _⟩, hx⟩, hz⟩ := hpre
  have hw' := DataW.Whole.of_heap (w' := w.forCall tape i) (by rfl) hw
  refine (contract (w.forCall tape i) w.heap.size i.args ds gs before hval hw' (hz.weights hw) (hX _ _ _ (by rfl) hx) hsh).mono fun e W' ⟨v, he, hp⟩ => ?_
  subst he
  exact ChangeSpec.post_blind hp
theorem maxLn_of {w : World} (h : w.ShapedOpen Tryd.prog) : MaxLn w :=
  Go.Proofs.cell_of_shapedOpen_int (zero := #[.int .i64 0]) (t := 3) h (of_decide_eq_true (by kernel_rfl)) (by kernel_rfl) rfl (by kernel_rfl) (by kernel_rfl) Tryd.underlying3
def laid : List (String × DataW Unit) := [("unicode/utf8.acceptRanges", Rows.laid_unicode_utf8_acceptRanges), ("unicode/utf8.first", Rows.laid_unicode_utf8_first)]
set_option maxRecDepth 100000 in
theorem sty_cells {w : World} {base : Nat} {spare : Nat → Bool} {held : Bool} {fuel : Nat} {l : List Value} {x : DataW H × List MemPlace} (hl : l.length = 5) (hf : DataW.trod enc Tryd.prog w base spare held fuel 23 l = some x) :
    ∃ y : Sty, l = (styCells y).toList ∧ y.Wide := by
  obtain ⟨xs, n, _, _, _, hxl, hg⟩ := DataW.trod_struct Tryd.underlying23 hf
  match l, hl with
  | [c0, c1, c2, c3, c4], _ =>
    have z : ∀ i, i < 5 → ∃ y, xs[i]? = some y := fun i hi => ⟨xs[i]'(by rw [hxl]; exact hi), List.getElem?_eq_getElem _⟩
    obtain ⟨y0, e0⟩ := z 0 (by omega)
    obtain ⟨y1, e1⟩ := z 1 (by omega)
    obtain ⟨y2, e2⟩ := z 2 (by omega)
    obtain ⟨y3, e3⟩ := z 3 (by omega)
    obtain ⟨y4, e4⟩ := z 4 (by omega)
    have k3 : Tryd.prog.cellsOf 3 = 1 := by kernel_rfl
    have k4 : Tryd.prog.cellsOf 4 = 1 := by kernel_rfl
    have g0 := (hg 0 ⟨"Bold", 4, 0, false, "", "", 0⟩ rfl).trans e0
    have g1 := (hg 1 ⟨"Under", 4, 1, false, "", "", 1⟩ rfl).trans e1
    have g2 := (hg 2 ⟨"Inverse", 4, 2, false, "", "", 2⟩ rfl).trans e2
    have g3 := (hg 3 ⟨"Fg", 3, 3, false, "", "", 8⟩ rfl).trans e3
    have g4 := (hg 4 ⟨"Bg", 3, 4, false, "", "", 16⟩ rfl).trans e4
    simp only [k4] at g0 g1 g2
    simp only [k3] at g3 g4
    obtain ⟨a0, q0, _⟩ := DataW.trod_bool Tryd.underlying4 g0
    obtain ⟨a1, q1, _⟩ := DataW.trod_bool Tryd.underlying4 g1
    obtain ⟨a2, q2, _⟩ := DataW.trod_bool Tryd.underlying4 g2
    obtain ⟨a3, q3, _, w3⟩ := DataW.trod_int Tryd.underlying3 g3
    obtain ⟨a4, q4, _, w4⟩ := DataW.trod_int Tryd.underlying3 g4
    refine ⟨⟨a0, a1, a2, a3, a4⟩, ?_, ?_, ?_⟩
    · simp at q0 q1 q2 q3 q4
      simp [styCells, q0, q1, q2, q3, q4]
    · simp [Lit.wf, IntKind.min, IntKind.max, IntKind.signed, IntKind.bits] at w3
      simp only []
      omega
    · simp [Lit.wf, IntKind.min, IntKind.max, IntKind.signed, IntKind.bits] at w4
      simp only []
      omega
set_option maxRecDepth 100000 in
theorem sty_of_arg {w : World} {r : Reach} {b0 base : Nat} {spare : Nat → Bool} {held : Bool} {v : Value} {d : DataW H} {p : List MemPlace} (hv : Value.okWide Tryd.prog w r b0 23 v) (h : DataW.Trod enc Tryd.prog w base spare held 23 v d p) :
    ∃ y : Sty, v = y.v ∧ y.Wide := by
  obtain ⟨cs, rfl, hsz⟩ := okWide_struct Tryd.underlying23 hv
  obtain ⟨l⟩ := cs
  obtain ⟨fuel, hf⟩ := h
  obtain ⟨y, hy, hw⟩ := sty_cells (l := l) (hsz.trans (by kernel_rfl)) (by simpa [Value.cells] using hf)
  refine ⟨y, ?_, hw⟩
  rw [hy]
  rfl
end Go.Proofs.YtlhfdpeidlbomaaDoor
