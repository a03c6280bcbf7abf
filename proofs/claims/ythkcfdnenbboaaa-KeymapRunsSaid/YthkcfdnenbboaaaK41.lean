/- The law KeymapRuns: its calls as they come in; its state; plain laws. -/
import Derived.Test.YthkcfdnenbboaaaK39
import Derived.Deep.Slices
import Derived.Sort.EncStr
namespace Go.Proofs.Ythkcfdnenbboaaa
open Go.RowKit Go.Shelf Go.Maps Go.Sort Go.ChangeMaps Go.ChangeShapes Go.WideShapes Go.Deep
structure OpD where
  d : Int
  k : Ky
  a : Int
structure OpD.Ok (o : OpD) : Prop where
  d : 0 ≤ o.d ∧ o.d ≤ 255
  k : o.k.Wide
  a : -9223372036854775808 ≤ o.a ∧ o.a ≤ 9223372036854775807
def opCells (o : OpD) : List Value := [.int .u8 o.d, .int .i64 o.k.code, .string o.k.s, .int .i64 o.k.n, .bool o.k.alt, .bool o.k.shift, .bool o.k.ctl, .int .i64 o.a]
def opz : OpD := ⟨0, kyZero, 0⟩
/-- A slice of calls. -/
def OpsV (w : World) (x : Option Addr) (n : Nat) (os : List OpD) : Prop :=
  n = os.length ∧ n ≤ 9223372036854775807 ∧ (∀ i, i < n → (os.getD i opz).Ok) ∧ (0 < n → ∃ b off, x = some ⟨b, off, none⟩ ∧ b < w.heap.size ∧ ∀ i, i < n → ∀ j, j < 8 → w.cell? ⟨b, off + i * 8 + j, none⟩ = (opCells (os.getD i opz))[j]?)
section
variable {H : Type} {enc : TypeId × Value → H} {w : World} {base : Nat} {spare : Nat → Bool} {held : Bool}
theorem addr_plain {a : Addr} {n : Nat} {cs : List Value} (h : w.cells? base a n = some cs) (hn : 0 < n) : ∃ b off, a = ⟨b, off, none⟩ := by
  obtain ⟨_, hl, hc⟩ := World.cells?_some h
  obtain ⟨b, off, spot⟩ := a
  have h0 := hc 0 hn
  rw [List.getElem?_eq_getElem (by omega)] at h0
  have := World.cell?_spot h0
  exact ⟨b, off, by simp [Addr.add] at this; rw [this]⟩
set_option maxRecDepth 100000 in
theorem op_of_trod {fuel : Nat} {cs : List Value} {x : DataW H × List MemPlace} (h : DataW.trod enc Try.prog w base spare held fuel 50 cs = some x) : ∃ o : OpD, o.Ok ∧ cs = opCells o := by
  obtain ⟨xs, n, _, _, hl, hn, hf⟩ := DataW.trod_struct Try.underlying50 h
  have hc : Try.prog.cellsOf 50 = 8 := by kernel_rfl
  have c5 : Try.prog.cellsOf 5 = 1 := by kernel_rfl
  have c27 : Try.prog.cellsOf 27 = 6 := by kernel_rfl
  have c30 : Try.prog.cellsOf 30 = 1 := by kernel_rfl
  rw [hc] at hl
  match cs, hl with
  | [v0, v1, v2, v3, v4, v5, v6, v7], _ =>
    have h0 := hf 0 ⟨"Do", 5, 0, false, "", "", 0⟩ rfl
    have h1 := hf 1 ⟨"K", 27, 1, false, "", "", 8⟩ rfl
    have h2 := hf 2 ⟨"A", 30, 7, false, "", "", 48⟩ rfl
    simp only [List.size_toArray, List.length_cons, List.length_nil] at hn
    rw [List.getElem?_eq_getElem (by omega)] at h0 h1 h2
    simp only [c5] at h0
    simp only [c27] at h1
    simp only [c30] at h2
    obtain ⟨a, ha, _, wa⟩ := DataW.trod_int Try.underlying5 h0
    obtain ⟨k, hk, hw⟩ := key_cells (by rfl) h1
    obtain ⟨d, hd, _, wd⟩ := DataW.trod_int Try.underlying30 h2
    simp at ha hd
    simp [kyCells] at hk
    refine ⟨⟨a, k, d⟩, ⟨?_, hw, ?_⟩, by simp [opCells, ha, hd, hk]⟩
    · simp [Lit.wf, IntKind.min, IntKind.max, IntKind.signed, IntKind.bits] at wa
      simp only []
      omega
    · simp [Lit.wf, IntKind.min, IntKind.max, IntKind.signed, IntKind.bits] at wd
      simp only []
      omega
set_option maxRecDepth 100000 in
theorem ops_of_trod {fuel : Nat} {v : Value} {x : DataW H × List MemPlace} (h : DataW.trod enc Try.prog w base spare held fuel 41 [v] = some x) :
    ∃ a n cap os, v = .slice a n cap ∧ n ≤ cap ∧ OpsV w a n os := by
  have hc : Try.prog.cellsOf 50 = 8 := by kernel_rfl
  rcases open_slice Try.underlying41 h with ⟨hcs, _⟩ | ⟨a, len, cap, m, n, D, Pl, hcs, _, hl, hm, hmm, _, hx⟩
  · simp at hcs; subst hcs; exact ⟨none, 0, 0, [], rfl, Nat.le_refl _, rfl, by omega, fun i hi => by omega, fun h => absurd h (by omega)⟩
  · simp at hcs; subst hcs
    rw [hc] at hx
    have hlm : len ≤ m := by rw [hmm]; split <;> omega
    have one : ∀ i, i < len → ∃ o : OpD, o.Ok ∧ w.cells? base (a.add (i * 8)) 8 = some (opCells o) := fun i hi => by
      obtain ⟨cs', h1, h2⟩ := hx i (by omega)
      obtain ⟨o, ho, rfl⟩ := op_of_trod h2
      exact ⟨o, ho, h1⟩
    haveI : Inhabited OpD := ⟨opz⟩
    obtain ⟨F, hF⟩ := choose_lt one
    have hg : ∀ i, i < len → ((List.range len).map F).getD i opz = F i := fun i hi => by simp [List.getD, hi]
    refine ⟨some a, len, cap, (List.range len).map F, rfl, hl, by simp, by unfold maxLen at hm; omega, fun i hi => by rw [hg i hi]; exact (hF i hi).1, fun hp => ?_⟩
    obtain ⟨b, off, ha⟩ := addr_plain (hF 0 hp).2 (by omega)
    have e0 : a.add (0 * 8) = a := by simp [Addr.add]
    rw [e0] at ha
    subst ha
    refine ⟨b, off, rfl, ?_, fun i hi j hj => ?_⟩
    · obtain ⟨_, _, hc0⟩ := World.cells?_some (hF 0 hp).2
      rw [e0] at hc0
      have := hc0 0 (by omega)
      exact World.block_lt_of_cell? w _ (this.trans rfl)
    · rw [hg i hi]
      obtain ⟨_, _, hc0⟩ := World.cells?_some (hF i hi).2
      simp only [add_plain] at hc0
      exact hc0 j hj
end
set_option maxRecDepth 100000 in
theorem ops_of_arg {H : Type} {enc : TypeId × Value → H} {w : World} {r : Reach} {b0 base : Nat} {spare : Nat → Bool} {held : Bool} {v : Value} {d : DataW H} {p : List MemPlace} (hv : Value.okWide Try.prog w r b0 41 v) (h : DataW.Trod enc Try.prog w base spare held 41 v d p) :
    ∃ a n cap os, v = .slice a n cap ∧ n ≤ cap ∧ OpsV w a n os := by
  obtain ⟨a, n, cap, rfl⟩ := okWide_slice Try.underlying41 hv
  obtain ⟨fuel, hf⟩ := h
  exact ops_of_trod (v := .slice a n cap) (by simpa [Value.cells] using hf)
end Go.Proofs.Ythkcfdnenbboaaa
