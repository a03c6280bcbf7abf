/- How the argument's reading gives its rows. -/
import Derived.Test.YtcbdmaffcjdnbaaRows
import Derived.Test.YtcbdmaffcjdnbaaW8
import Derived.ProofKit
import Derived.OpenShut
import Derived.ShutString
import Derived.ChangeOld
import Derived.Deep.Slices
import Derived.Lib.SmallJoins
namespace Go.Proofs.Ytcbdmaffcjdnbaa
open Go.ChangeShapes Go.WideShapes Go.ChangeAt Go.RowKit Go.Deep
section
variable {H : Type} {enc : TypeId × Value → H} {w : World} {base : Nat} {spare : Nat → Bool} {held : Bool}
theorem style_of_trod {fuel : Nat} {cs : List Value} {x : DataW H × List MemPlace} (h : DataW.trod enc Try.prog w base spare held fuel 68 cs = some x) :
    ∃ (a b c : Bool) (f g : Int), cs = [.bool a, .bool b, .bool c, .int .i64 f, .int .i64 g] := by
  obtain ⟨xs, n, _, _, hl, hn, hf⟩ := DataW.trod_struct Try.underlying68 h
  have hc : Try.prog.cellsOf 68 = 5 := by kernel_rfl
  have c4 : Try.prog.cellsOf 4 = 1 := by kernel_rfl
  have c3 : Try.prog.cellsOf 3 = 1 := by kernel_rfl
  rw [hc] at hl
  match cs, hl with
  | [v0, v1, v2, v3, v4], _ =>
    have h0 := hf 0 _ rfl
    have h1 := hf 1 _ rfl
    have h2 := hf 2 _ rfl
    have h3 := hf 3 _ rfl
    have h4 := hf 4 _ rfl
    simp only [List.size_toArray, List.length_cons, List.length_nil] at hn
    rw [List.getElem?_eq_getElem (by omega)] at h0 h1 h2 h3 h4
    obtain ⟨a, ha, _⟩ := DataW.trod_bool Try.underlying4 h0
    obtain ⟨b, hb, _⟩ := DataW.trod_bool Try.underlying4 h1
    obtain ⟨c, hc', _⟩ := DataW.trod_bool Try.underlying4 h2
    obtain ⟨f, hf', _⟩ := DataW.trod_int Try.underlying3 h3
    obtain ⟨g, hg, _⟩ := DataW.trod_int Try.underlying3 h4
    simp [c4, c3] at ha hb hc' hf' hg
    exact ⟨a, b, c, f, g, by simp [ha, hb, hc', hf', hg]⟩
theorem cell_of_trod {fuel : Nat} {cs : List Value} {x : DataW H × List MemPlace} (h : DataW.trod enc Try.prog w base spare held fuel 70 cs = some x) :
    ∃ c : CellD, cs = [.string c.s, .int .i64 c.w, .bool c.y0, .bool c.y1, .bool c.y2, .int .i64 c.f, .int .i64 c.g] := by
  obtain ⟨xs, n, _, _, hl, hn, hf⟩ := DataW.trod_struct Try.underlying70 h
  have hc : Try.prog.cellsOf 70 = 7 := by kernel_rfl
  have c9 : Try.prog.cellsOf 9 = 1 := by kernel_rfl
  have c3 : Try.prog.cellsOf 3 = 1 := by kernel_rfl
  have c68 : Try.prog.cellsOf 68 = 5 := by kernel_rfl
  rw [hc] at hl
  match cs, hl with
  | [v0, v1, v2, v3, v4, v5, v6], _ =>
    have h0 := hf 0 _ rfl
    have h1 := hf 1 _ rfl
    have h2 := hf 2 _ rfl
    simp only [List.size_toArray, List.length_cons, List.length_nil] at hn
    rw [List.getElem?_eq_getElem (by omega)] at h0 h1 h2
    obtain ⟨a, ha, _⟩ := DataW.trod_string Try.underlying9 h0
    obtain ⟨b, hb, _⟩ := DataW.trod_int Try.underlying3 h1
    obtain ⟨y0, y1, y2, f, g, hy⟩ := style_of_trod h2
    simp [c9, c3, c68] at ha hb hy
    exact ⟨⟨a, b, y0, y1, y2, f, g⟩, by simp [ha, hb, hy]⟩
theorem addr_plain {a : Addr} {n : Nat} {cs : List Value} (h : w.cells? base a n = some cs) (hn : 0 < n) : ∃ b off, a = ⟨b, off, none⟩ := by
  obtain ⟨_, hl, hc⟩ := World.cells?_some h
  obtain ⟨b, off, spot⟩ := a
  have h0 := hc 0 hn
  rw [List.getElem?_eq_getElem (by omega)] at h0
  have := World.cell?_spot h0
  exact ⟨b, off, by simp [Addr.add] at this; rw [this]⟩
theorem row_of_trod {fuel : Nat} {v : Value} {x : DataW H × List MemPlace} (h : DataW.trod enc Try.prog w base spare held fuel 66 [v] = some x) :
    ∃ cs, RowVal w v cs := by
  have hc : Try.prog.cellsOf 70 = 7 := by kernel_rfl
  rcases open_slice Try.underlying66 h with ⟨hcs, _⟩ | ⟨a, len, cap, m, n, D, Pl, hcs, _, hl, hm, hmm, _, hx⟩
  · simp at hcs; subst hcs; exact ⟨[], rowVal_nil w⟩
  · simp at hcs; subst hcs
    rw [hc] at hx
    have hlm : len ≤ m := by rw [hmm]; split <;> omega
    have one : ∀ i, i < len → ∃ c : CellD, w.cells? base (a.add (i * 7)) 7 = some [.string c.s, .int .i64 c.w, .bool c.y0, .bool c.y1, .bool c.y2, .int .i64 c.f, .int .i64 c.g] := fun i hi => by
      obtain ⟨cs', h1, h2⟩ := hx i (by omega)
      obtain ⟨c, rfl⟩ := cell_of_trod h2
      exact ⟨c, h1⟩
    haveI : Inhabited CellD := ⟨CellD.zero⟩
    obtain ⟨F, hF⟩ := choose_lt one
    refine ⟨(List.range len).map F, some a, len, cap, rfl, by simp, hl, by simpa [maxLen] using hm, (fun h => by cases h), fun hp => ?_⟩
    obtain ⟨b, off, ha⟩ := addr_plain (hF 0 hp) (by omega)
    have e0 : a.add (0 * 7) = a := by simp [Addr.add]
    rw [e0] at ha
    subst ha
    refine ⟨b, off, rfl, ?_, fun i hi => ?_⟩
    · obtain ⟨_, _, hc0⟩ := World.cells?_some (hF 0 hp)
      rw [e0] at hc0
      have := hc0 0 (by omega)
      exact World.block_lt_of_cell? w _ (this.trans rfl)
    · have hg : ((List.range len).map F).getD i CellD.zero = F i := by simp [List.getD, hi]
      rw [hg]
      obtain ⟨_, _, hc0⟩ := World.cells?_some (hF i hi)
      simp only [add_plain] at hc0
      exact ⟨hc0 0 (by omega), hc0 1 (by omega), hc0 2 (by omega), hc0 3 (by omega), hc0 4 (by omega), hc0 5 (by omega), hc0 6 (by omega)⟩
theorem rows_of_trod {fuel : Nat} {v : Value} {x : DataW H × List MemPlace} (h : DataW.trod enc Try.prog w base spare held fuel 22 [v] = some x) :
    ∃ a n cap rs, v = .slice a n cap ∧ RowsV w a n cap rs := by
  have hc : Try.prog.cellsOf 66 = 1 := by kernel_rfl
  rcases open_slice1 Try.underlying22 hc h with ⟨hcs, _⟩ | ⟨a, len, cap, m, n, V, D, Pl, hcs, _, hl, hm, hmm, _, hx⟩
  · simp at hcs; subst hcs; exact ⟨none, 0, 0, [], rfl, rfl, by omega, by omega, fun h => absurd h (by omega)⟩
  · simp at hcs; subst hcs
    have hlm : len ≤ m := by rw [hmm]; split <;> omega
    have one : ∀ i, i < len → ∃ cs, RowVal w (V i) cs := fun i hi => row_of_trod (hx i (by omega)).2
    obtain ⟨F, hF⟩ := choose_lt one
    refine ⟨some a, len, cap, (List.range len).map F, rfl, by simp, hl, by simpa [maxLen] using hm, fun hp => ?_⟩
    obtain ⟨b, off, spot⟩ := a
    have h0 := (hx 0 (by omega)).1
    have hs := World.cell?_spot h0
    simp [Addr.add] at hs
    subst hs
    refine ⟨b, off, rfl, ?_, fun i hi => ⟨V i, ?_, ?_⟩⟩
    · have := World.block_lt_of_cell? w _ h0
      simpa [Addr.add] using this
    · have := (hx i (by omega)).1
      rwa [add_plain] at this
    · have hg : nth ((List.range len).map F) i = F i := by simp [nth, List.getD, hi]
      rw [hg]
      exact hF i hi
end
end Go.Proofs.Ytcbdmaffcjdnbaa
