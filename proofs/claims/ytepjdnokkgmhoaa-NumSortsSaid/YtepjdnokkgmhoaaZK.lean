/- NumSorts: the walk; the row as an argument. -/
import Derived.Test.YtepjdnokkgmhoaaZJ
import Derived.Test.YtepjdnokkgmhoaaE2
import Derived.Deep.Slices
import Derived.Laws.Cover2
namespace Go.Proofs.Ytepjdnokkgmhoaa
open Go.RowKit Go.Sort Go.Shelf Go.ChangeShapes Go.WideShapes
theorem trod_float1 {H : Type} {enc : TypeId × Value → H} {P : Program} {w : World} {base : Nat} {spare : Nat → Bool} {held : Bool} {n : Nat} {t : TypeId} {k : FloatKind} {v : Value} {d : DataW H} {p : List MemPlace}
    (ht : P.underlying t = some (.float k)) (h : DataW.trod enc P w base spare held n t [v] = some (d, p)) : ∃ b, v = .float k b ∧ (Lit.float k b).wf = true := by
  cases n with
  | zero => simp [DataW.trod] at h
  | succ n =>
    cases v <;> simp [DataW.trod, ht] at h
    rename_i k' b
    obtain ⟨⟨rfl, hw⟩, _⟩ := h
    exact ⟨b, rfl, hw⟩
theorem floats_of_arg {H : Type} {enc : TypeId × Value → H} {w : World} {r : Reach} {b0 base : Nat} {spare : Nat → Bool} {held : Bool} {v : Value} {d : DataW H} {p : List MemPlace} (hv : Value.okWide Try.prog w r b0 38 v) (h : DataW.Trod enc Try.prog w base spare held 38 v d p) :
    ∃ a cap L, v = .slice a L.length cap ∧ L.length ≤ 9223372036854775807 ∧ (∀ x ∈ L, x < 18446744073709551616) ∧ RowF w a L := by
  obtain ⟨a, n, cap, rfl⟩ := okWide_slice Try.underlying38 hv
  obtain ⟨fuel, hf⟩ := h
  rcases Go.Deep.open_slice1 Try.underlying38 (by kernel_rfl) (show DataW.trod enc Try.prog w base spare held fuel 38 [.slice a n cap] = some _ by simpa [Value.cells] using hf) with ⟨hcs, _⟩ | ⟨a', len, cap', m, n', V, D, Pl, hcs, _, hl, hm, hmm, _, hx⟩
  · cases hcs
    exact ⟨none, 0, [], rfl, by simp, by simp, fun h => absurd h (by simp)⟩
  · cases hcs
    have hnm : n ≤ m := by rw [hmm]; split <;> omega
    obtain ⟨F, hF⟩ := Go.Deep.choose_lt (α := Nat) (p := fun i b => V i = .float .f64 b ∧ (Lit.float .f64 b).wf = true) (n := m) (fun i hi => trod_float1 Try.underlying22 (hx i hi).2)
    refine ⟨some a', cap, (List.range n).map F, by simp, by simp; unfold maxLen at hm; omega, fun x hxm => ?_, fun hp => ?_⟩
    · obtain ⟨i, hi, rfl⟩ := List.mem_map.1 hxm
      have := (hF i (by have := List.mem_range.1 hi; omega)).2
      simpa [Lit.wf] using this
    · obtain ⟨b, off, spot⟩ := a'
      have hn0 : 0 < n := by simpa using hp
      have h0 := (hx 0 (by omega)).1
      have hs := World.cell?_spot h0
      have hsp : spot = none := by simpa [Addr.add] using hs
      subst hsp
      refine ⟨b, off, rfl, World.block_lt_of_cell? w _ h0, fun i hi => ?_⟩
      have hi' : i < n := by simpa using hi
      have h1 := (hx i (by omega)).1
      rw [Go.WideShapes.add_plain] at h1
      rw [h1, (hF i (by omega)).1]
      simp [hi']
end Go.Proofs.Ytepjdnokkgmhoaa
