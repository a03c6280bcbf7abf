/- A key's name: the state of the builder while Name writes it. -/
import Derived.Test.YthkcfdnenbboaaaK5
import Derived.Deep.RegionHeld3
import Derived.Deep.Cut
import Derived.Deep.CutRange
import Derived.Deep.DeepCutAuto
namespace Go.Proofs.Ythkcfdnenbboaaa
open Go.RowKit Go.Shelf
def preL (al ct sh : Bool) : List UInt8 := (if al then [97, 108, 116, 45] else []) ++ ((if ct then [99, 116, 108, 45] else []) ++ (if sh then [115, 104, 105, 102, 116, 45] else []))
def tailL (k : Ky) : List UInt8 := if k.code = 1 then (if k.alt then 46 :: k.s.data.toList else []) else if k.code = 17 then k.s.data.toList else if k.code = 18 then (numS k.n).data.toList else []
def Ky.name (k : Ky) : List UInt8 := if k.ok then preL k.alt k.ctl k.shift ++ ((codeOf k.code).data.toList ++ tailL k) else []
theorem below_le {m n : Nat} {w w' : World} (h : Below n w w') (hm : m ≤ n) : Below m w w' := ⟨h.os, h.tape, h.output, h.size, fun j hj => h.block j (by omega)⟩
theorem row_keptB {w w' : World} {n0 : Nat} {e : TypeId} {z n : Nat} {v : Value} {xs : List Value} (h : w.ownsRow n0 e z v n xs) (hk : ∀ j, j < w.heap.size → w'.heap[j]? = w.heap[j]?) : w'.ownsRow n0 e z v n xs := by
  rcases h with ⟨h1, h2 | ⟨g, cap, cur, hv, hg, hb, hr⟩⟩
  · exact ⟨h1, Or.inl h2⟩
  · exact ⟨h1, Or.inr ⟨g, cap, cur, hv, hg, (hk g (Array.getElem?_eq_some_iff.1 hb).1).trans hb, hr⟩⟩
theorem bld_kept {T e : TypeId} {B b : Nat} {bs : List Value} {w w' : World} (h : Lib.IsBuilder T e B b bs w) (hb : Below w.heap.size w w') : Lib.IsBuilder T e B b bs w' := by
  rcases h with h | h
  · obtain ⟨h1, v, h2, h3, h4⟩ := h
    exact Or.inl ⟨h1, v, (hb.block b (Array.getElem?_eq_some_iff.1 h2).1).trans h2, row_keptB h3 hb.block, h4⟩
  · obtain ⟨h1, v, h2, h3, h4⟩ := h
    exact Or.inr ⟨h1, v, (hb.block b (Array.getElem?_eq_some_iff.1 h2).1).trans h2, row_keptB h3 hb.block, h4⟩
/-- The key in its box, and the builder, which holds l. -/
structure NS (w : World) (b : Nat) (k : Ky) (l : List UInt8) (w' : World) : Prop where
  box : w'.heap[w.heap.size]? = some (.cells #[.int .i64 k.code, .string k.s, .int .i64 k.n, .bool k.alt, .bool k.shift, .bool k.ctl] 27 (0, 0))
  bld : Lib.IsBuilder 78 5 (w.heap.size + 1) b (Lib.byteCells l) w'
  bel : Below w.heap.size w w'
  len : w.heap.size + 1 ≤ w'.heap.size
theorem NS.kept {w : World} {b : Nat} {k : Ky} {l : List UInt8} {w1 w2 : World} (h : NS w b k l w1) (hb : Below w1.heap.size w1 w2) : NS w b k l w2 :=
  ⟨(hb.block _ (Array.getElem?_eq_some_iff.1 h.box).1).trans h.box, bld_kept h.bld hb, h.bel.trans (below_le hb h.bel.size), Nat.le_trans h.len hb.size⟩
theorem NS.cells {w : World} {b : Nat} {k : Ky} {l : List UInt8} {w1 : World} (h : NS w b k l w1) :
    w1.cell? ⟨w.heap.size, 0, none⟩ = some (.int .i64 k.code) ∧ w1.cell? ⟨w.heap.size, 1, none⟩ = some (.string k.s) ∧ w1.cell? ⟨w.heap.size, 2, none⟩ = some (.int .i64 k.n) ∧ w1.cell? ⟨w.heap.size, 3, none⟩ = some (.bool k.alt) ∧ w1.cell? ⟨w.heap.size, 4, none⟩ = some (.bool k.shift) ∧ w1.cell? ⟨w.heap.size, 5, none⟩ = some (.bool k.ctl) := by
  have hb := h.box
  exact ⟨by simp [World.cell?, hb], by simp [World.cell?, hb], by simp [World.cell?, hb], by simp [World.cell?, hb], by simp [World.cell?, hb], by simp [World.cell?, hb]⟩
theorem NS.write {w : World} {b : Nat} {k : Ky} {l : List UInt8} {w1 : World} (h : NS w b k l w1) (t : ByteArray) (hl : l.length + t.size ≤ 140737488355328) :
    Calls Try.prog 43 #[.pointer (some ⟨b, 0, none⟩), .string t] w1 fun e w' => e = .returned (.tuple #[.int .i64 t.size, .nilIface]) ∧ NS w b k (l ++ t.data.toList) w' := by
  refine (writeString _ b _ t w1 h.bld (by simpa [Lib.byteCells_length] using hl) h.len).mono ?_
  rintro e w' ⟨rfl, hB, hb⟩
  refine ⟨rfl, (hb.block _ (by omega)).trans h.box, ?_, h.bel.trans (below_le hb (by omega)), Nat.le_trans h.len hb.size⟩
  rw [Lib.byteCells_append, ← Lib.strCells_eq]
  exact Or.inr hB
end Go.Proofs.Ythkcfdnenbboaaa
