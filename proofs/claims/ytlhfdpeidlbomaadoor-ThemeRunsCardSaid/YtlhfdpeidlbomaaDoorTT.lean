/- The law ThemeRuns: its calls as they come in. -/
import Derived.Test.YtlhfdpeidlbomaaDoorTS
import Derived.Test.YtlhfdpeidlbomaaDoorTH
import Derived.Deep.Slices
namespace Go.Proofs.YtlhfdpeidlbomaaDoor
open Go.RowKit Go.Shelf Go.ChangeMaps Go.ChangeShapes Go.WideShapes Go.Deep
structure OpT where
  s : ByteArray
  y : Sty
  p : Bool
def opCells (o : OpT) : List Value := [.string o.s, .bool o.y.b, .bool o.y.u, .bool o.y.i, .int .i64 o.y.f, .int .i64 o.y.g, .bool o.p]
def opz : OpT := ⟨⟨#[]⟩, sty0, false⟩
/-- A slice of calls. -/
def OpsV (w : World) (x : Option Addr) (n : Nat) (os : List OpT) : Prop :=
  n = os.length ∧ n ≤ 9223372036854775807 ∧ (0 < n → ∃ b off, x = some ⟨b, off, none⟩ ∧ b < w.heap.size ∧ ∀ i, i < n → ∀ j, j < 7 → w.cell? ⟨b, off + i * 7 + j, none⟩ = (opCells (os.getD i opz))[j]?)
section
variable {H : Type} {enc : TypeId × Value → H} {w : World} {base : Nat} {spare : Nat → Bool} {held : Bool}
theorem addr_plain {a : Addr} {n : Nat} {cs : List Value} (h : w.cells? base a n = some cs) (hn : 0 < n) : ∃ b off, a = ⟨b, off, none⟩ := by
  obtain ⟨_, hl, hc⟩ := World.cells?_some h
  obtain ⟨b, off, spot⟩ := a
  have h0 := hc 0 hn
  rw [List.getElem?_eq_getElem (by omega)] at h0
  have := World.cell?_spot h0
  exact ⟨b, off, by simp [Addr.add] at this; rw [this]⟩
set_option maxRecDepth 100000 in
theorem op_of_trod {fuel : Nat} {cs : List Value} {x : DataW H × List MemPlace} (h : DataW.trod enc Tryd.prog w base spare held fuel 49 cs = some x) : ∃ o : OpT, cs = opCells o := by
  obtain ⟨xs, n, _, _, hl, hn, hf⟩ := DataW.trod_struct Tryd.underlying49 h
  have hc : Tryd.prog.cellsOf 49 = 7 := by kernel_rfl
  have c9 : Tryd.prog.cellsOf 9 = 1 := by kernel_rfl
  have c23 : Tryd.prog.cellsOf 23 = 5 := by kernel_rfl
  have c4 : Tryd.prog.cellsOf 4 = 1 := by kernel_rfl
  rw [hc] at hl
  match cs, hl with
  | [v0, v1, v2, v3, v4, v5, v6], _ =>
    have h0 := hf 0 ⟨"Part", 9, 0, false, "", "", 0⟩ rfl
    have h1 := hf 1 ⟨"Y", 23, 1, false, "", "", 16⟩ rfl
    have h2 := hf 2 ⟨"Plain", 4, 6, false, "", "", 40⟩ rfl
    simp only [List.size_toArray, List.length_cons, List.length_nil] at hn
    rw [List.getElem?_eq_getElem (by omega)] at h0 h1 h2
    simp only [c9] at h0
    simp only [c23] at h1
    simp only [c4] at h2
    obtain ⟨a, ha, _⟩ := DataW.trod_string Tryd.underlying9 h0
    obtain ⟨k, hk, hw⟩ := sty_cells (by rfl) h1
    obtain ⟨d, hd, _⟩ := DataW.trod_bool Tryd.underlying4 h2
    simp at ha hd
    simp [styCells] at hk
    exact ⟨⟨a, k, d⟩, by simp [opCells, ha, hd, hk]⟩
set_option maxRecDepth 100000 in
theorem ops_of_trod {fuel : Nat} {v : Value} {x : DataW H × List MemPlace} (h : DataW.trod enc Tryd.prog w base spare held fuel 45 [v] = some x) :
    ∃ a n cap os, v = .slice a n cap ∧ n ≤ cap ∧ OpsV w a n os := by
  have hc : Tryd.prog.cellsOf 49 = 7 := by kernel_rfl
  rcases open_slice Tryd.underlying45 h with ⟨hcs, _⟩ | ⟨a, len, cap, m, n, D, Pl, hcs, _, hl, hm, hmm, _, hx⟩
  · simp at hcs; subst hcs; exact ⟨none, 0, 0, [], rfl, Nat.le_refl _, rfl, by omega, fun h => absurd h (by omega)⟩
  · simp at hcs; subst hcs
    rw [hc] at hx
    have hlm : len ≤ m := by rw [hmm]; split <;> omega
    have one : ∀ i, i < len → ∃ o : OpT, w.cells? base (a.add (i * 7)) 7 = some (opCells o) := fun i hi => by
      obtain ⟨cs', h1, h2⟩ := hx i (by omega)
      obtain ⟨o, rfl⟩ := op_of_trod h2
      exact ⟨o, h1⟩
    haveI : Inhabited OpT := ⟨opz⟩
    obtain ⟨F, hF⟩ := choose_lt one
    have hg : ∀ i, i < len → ((List.range len).map F).getD i opz = F i := fun i hi => by simp [List.getD, hi]
    refine ⟨some a, len, cap, (List.range len).map F, rfl, hl, by simp, by unfold maxLen at hm; omega, fun hp => ?_⟩
    obtain ⟨b, off, ha⟩ := addr_plain (hF 0 hp) (by omega)
    have e0 : a.add (0 * 7) = a := by simp [Addr.add]
    rw [e0] at ha
    subst ha
    refine ⟨b, off, rfl, ?_, fun i hi j hj => ?_⟩
    · obtain ⟨_, _, hc0⟩ := World.cells?_some (hF 0 hp)
      rw [e0] at hc0
      have := hc0 0 (by omega)
      exact World.block_lt_of_cell? w _ (this.trans rfl)
    · rw [hg i hi]
      obtain ⟨_, _, hc0⟩ := World.cells?_some (hF i hi)
      simp only [add_plain] at hc0
      exact hc0 j hj
end
set_option maxRecDepth 100000 in
theorem ops_of_arg {H : Type} {enc : TypeId × Value → H} {w : World} {r : Reach} {b0 base : Nat} {spare : Nat → Bool} {held : Bool} {v : Value} {d : DataW H} {p : List MemPlace} (hv : Value.okWide Tryd.prog w r b0 45 v) (h : DataW.Trod enc Tryd.prog w base spare held 45 v d p) :
    ∃ a n cap os, v = .slice a n cap ∧ n ≤ cap ∧ OpsV w a n os := by
  obtain ⟨a, n, cap, rfl⟩ := okWide_slice Tryd.underlying45 hv
  obtain ⟨fuel, hf⟩ := h
  exact ops_of_trod (v := .slice a n cap) (by simpa [Value.cells] using hf)
end Go.Proofs.YtlhfdpeidlbomaaDoor
