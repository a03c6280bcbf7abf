/- Own texts, merged: FI. -/
import Derived.Laws.MakeOwn
import Derived.Laws.OwnMore
import Derived.Test.YtdehjofmangmbaaGreatMS34
import Derived.Test.YtdehjofmangmbaaGreatKB
/- Blocks of four cells, rows of marks; walks: the reference's price. -/
namespace Go.Proofs.YtdehjofmangmbaaGreat
open Go.RowKit Go.Shelf
/-- Which places are marked. -/
def mkB (l : List Nat) (n : Nat) : List Bool := (List.range n).map (fun i => l.contains i)
theorem mkB_len (l : List Nat) (n : Nat) : (mkB l n).length = n := by simp [mkB]
theorem mkB_nil (n : Nat) : mkB [] n = List.replicate n false := by
  unfold mkB
  refine List.ext_getElem (by simp) (fun i h1 h2 => by simp)
theorem mkB_set (l : List Nat) (n k : Nat) : (mkB l n).set k true = mkB (l ++ [k]) n := by
  unfold mkB
  refine List.ext_getElem (by simp) (fun i h1 h2 => ?_)
  rw [List.getElem_set]
  simp only [List.getElem_map, List.getElem_range]
  split
  · rename_i e
    subst e
    simp
  · rename_i e
    have e2 : ¬ i = k := fun q => e q.symm
    simp [e2]
def bools (l : List Bool) : List Value := l.map Value.bool
/-- A row of truths in memory. -/
def BoolAt (W : World) (g : Nat) (l : List Bool) : Prop := W.heap[g]? = some (.cells (bools l).toArray 4 (0, 0))
theorem BoolAt.lt {W : World} {g : Nat} {l : List Bool} (h : BoolAt W g l) : g < W.heap.size := (Array.getElem?_eq_some_iff.1 h).1
theorem BoolAt.get {W : World} {g : Nat} {l : List Bool} (h : BoolAt W g l) (j : Nat) (hj : j < l.length) : W.cell? ⟨g, j, none⟩ = some (.bool (l.getD j false)) ∧ W.frozen? ⟨g, j, none⟩ = false := by
  unfold BoolAt at h
  refine ⟨?_, by simp [World.frozen?, h]⟩
  simp [World.cell?, h, bools, hj]
theorem BoolAt.set {W : World} {g : Nat} {l : List Bool} (h : BoolAt W g l) (j : Nat) (v : Bool) : BoolAt (W.setCell ⟨g, j, none⟩ (.bool v)) g (l.set j v) := by
  unfold BoolAt at h ⊢
  have := set_block (o := j) h (.bool v)
  rw [this]
  congr 2
  simp [bools]
theorem BoolAt.kept {W W' : World} {g : Nat} {l : List Bool} (h : BoolAt W g l) (hk : W'.heap[g]? = W.heap[g]?) : BoolAt W' g l := by unfold BoolAt; rw [hk]; exact h
theorem BoolAt.below {W W' : World} {g : Nat} {l : List Bool} (h : BoolAt W g l) (hB : Below W.heap.size W W') : BoolAt W' g l := h.kept (hB.block g h.lt)
def C4 (T : TypeId) (w : World) (g : Nat) (a b c d : Value) : Prop := w.heap[g]? = some (.cells #[a, b, c, d] T (0, 0))
theorem C4.lt {T : TypeId} {w : World} {g : Nat} {a b c d : Value} (h : C4 T w g a b c d) : g < w.heap.size := (Array.getElem?_eq_some_iff.1 h).1
theorem C4.kept {T : TypeId} {w w' : World} {g : Nat} {a b c d : Value} (h : C4 T w g a b c d) (hk : w'.heap[g]? = w.heap[g]?) : C4 T w' g a b c d := by unfold C4; rw [hk]; exact h
theorem C4.below {T : TypeId} {w w' : World} {g : Nat} {a b c d : Value} (h : C4 T w g a b c d) (hb : Below w.heap.size w w') : C4 T w' g a b c d := h.kept (hb.block g h.lt)
theorem C4.cells {T : TypeId} {w : World} {g : Nat} {a b c d : Value} (h : C4 T w g a b c d) : w.cell? ⟨g, 0, none⟩ = some a ∧ w.cell? ⟨g, 1, none⟩ = some b ∧ w.cell? ⟨g, 2, none⟩ = some c ∧ w.cell? ⟨g, 3, none⟩ = some d := by
  unfold C4 at h
  exact ⟨by simp [World.cell?, h], by simp [World.cell?, h], by simp [World.cell?, h], by simp [World.cell?, h]⟩
theorem C4.frozen {T : TypeId} {w : World} {g : Nat} {a b c d : Value} (h : C4 T w g a b c d) : w.frozen? ⟨g, 0, none⟩ = false ∧ w.frozen? ⟨g, 1, none⟩ = false ∧ w.frozen? ⟨g, 2, none⟩ = false ∧ w.frozen? ⟨g, 3, none⟩ = false := by
  unfold C4 at h
  exact ⟨by simp [World.frozen?, h], by simp [World.frozen?, h], by simp [World.frozen?, h], by simp [World.frozen?, h]⟩
def put4 (w : World) (g : Nat) (a b c d : Value) : World := (((w.setCell ⟨g, 0, none⟩ a).setCell ⟨g, 1, none⟩ b).setCell ⟨g, 2, none⟩ c).setCell ⟨g, 3, none⟩ d
theorem C4.put {T : TypeId} {w : World} {g : Nat} {a b c d a' b' c' d' : Value} (h : C4 T w g a b c d) : C4 T (put4 w g a' b' c' d') g a' b' c' d' := by
  unfold C4 at h ⊢
  have h0 := set_block (o := 0) h a'
  have h1 := set_block (o := 1) h0 b'
  have h2 := set_block (o := 2) h1 c'
  have h3 := set_block (o := 3) h2 d'
  exact h3
theorem put4_other {w : World} {g j : Nat} {a b c d : Value} (h : j ≠ g) : (put4 w g a b c d).heap[j]? = w.heap[j]? := by
  unfold put4
  rw [Below.heap_setCell _ _ _ j (by simpa using h), Below.heap_setCell _ _ _ j (by simpa using h), Below.heap_setCell _ _ _ j (by simpa using h), Below.heap_setCell _ _ _ j (by simpa using h)]
theorem below_put4 {n : Nat} {w W : World} {g : Nat} {a b c d : Value} (h : Below n w W) (hg : n ≤ g) : Below n w (put4 W g a b c d) := (((h.setCell (p := ⟨g, 0, none⟩) hg _).setCell (p := ⟨g, 1, none⟩) hg _).setCell (p := ⟨g, 2, none⟩) hg _).setCell (p := ⟨g, 3, none⟩) hg _
theorem C4.set1 {T : TypeId} {w : World} {g : Nat} {a b c d : Value} (h : C4 T w g a b c d) (v : Value) : C4 T (w.setCell ⟨g, 1, none⟩ v) g a v c d := by
  unfold C4 at h ⊢
  exact set_block (o := 1) h v
theorem C4.set2 {T : TypeId} {w : World} {g : Nat} {a b c d : Value} (h : C4 T w g a b c d) (v : Value) : C4 T (w.setCell ⟨g, 2, none⟩ v) g a b v d := by
  unfold C4 at h ⊢
  exact set_block (o := 2) h v
/-- A row of numbers is untouched by a store into a block of another type. -/
theorem IntO.set_at {b : Nat} {W : World} {v : Value} {l : List Nat} {g o : Nat} {cs : Array Value} {T : TypeId} {fr : Nat × Nat} (h : IntO b W v l) (hg : W.heap[g]? = some (.cells cs T fr)) (hT : T ≠ 3) (u : Value) : IntO b (W.setCell ⟨g, o, none⟩ u) v l := by
  refine ownsRow_setCell_other (a := ⟨g, o, none⟩) h (fun e => ?_) _
  rcases h.2 with ⟨hv, _⟩ | ⟨g', cap, cur, rfl, _, hg', _⟩
  · rw [hv] at e; cases e
  · obtain rfl : g' = g := by simpa [Value.ownBlock] using e
    have := hg.symm.trans hg'
    simp at this
    exact hT this.2.1
def PrO (b : Nat) (W : World) (v : Value) (n : Nat) : Option Fnd → Prop
  | none => v = .agg #[.bool false, .int .i64 0, .int .i64 0, .slice none 0 0]
  | some f => ∃ g, v = .agg #[.bool true, .int .i64 f.rank, .int .i64 f.gaps, .slice (some ⟨g, 0, none⟩) n n] ∧ b ≤ g ∧ BoolAt W g (mkB f.at_ n)
def PrEnd (n : Nat) (r : Option Fnd) (w : World) (e : Ending) (w' : World) : Prop := ∃ v, e = .returned v ∧ PrO w.heap.size w' v n r ∧ Below w.heap.size w w'
/-- What price's loops keep: the price at p, the result's place at r, the marks at g. -/
structure PrI (T : TypeId) (w : World) (r p g n : Nat) (rk gp : Int) (l : List Nat) (W : World) : Prop where
  c4 : C4 T W p (.bool true) (.int .i64 rk) (.int .i64 gp) (.slice (some ⟨g, 0, none⟩) n n)
  zr : C4 T W r (.bool false) (.int .i64 0) (.int .i64 0) (.slice none 0 0)
  mks : BoolAt W g (mkB l n)
  bl : Below w.heap.size w W
theorem PrI.below {T : TypeId} {w : World} {r p g n : Nat} {rk gp : Int} {l : List Nat} {W W' : World} (h : PrI T w r p g n rk gp l W) (hB : Below W.heap.size W W') : PrI T w r p g n rk gp l W' :=
  ⟨h.c4.below hB, h.zr.below hB, h.mks.below hB, h.bl.trans (below_le hB h.bl.size)⟩
theorem PrI.rank {T : TypeId} {w : World} {r p g n : Nat} {rk gp : Int} {l : List Nat} {W : World} (h : PrI T w r p g n rk gp l W) (hp : w.heap.size ≤ p) (hrp : r ≠ p) (hgp : g ≠ p) (x : Int) : PrI T w r p g n x gp l (W.setCell ⟨p, 1, none⟩ (.int .i64 x)) :=
  ⟨h.c4.set1 _, h.zr.kept (Below.heap_setCell _ _ _ _ hrp), h.mks.kept (Below.heap_setCell _ _ _ _ hgp), h.bl.setCell (p := ⟨p, 1, none⟩) hp _⟩
theorem PrI.gaps {T : TypeId} {w : World} {r p g n : Nat} {rk gp : Int} {l : List Nat} {W : World} (h : PrI T w r p g n rk gp l W) (hp : w.heap.size ≤ p) (hrp : r ≠ p) (hgp : g ≠ p) (x : Int) : PrI T w r p g n rk x l (W.setCell ⟨p, 2, none⟩ (.int .i64 x)) :=
  ⟨h.c4.set2 _, h.zr.kept (Below.heap_setCell _ _ _ _ hrp), h.mks.kept (Below.heap_setCell _ _ _ _ hgp), h.bl.setCell (p := ⟨p, 2, none⟩) hp _⟩
theorem PrI.mark {T : TypeId} {w : World} {r p g n : Nat} {rk gp : Int} {l : List Nat} {W : World} (h : PrI T w r p g n rk gp l W) (hg : w.heap.size ≤ g) (hrg : r ≠ g) (hgp : p ≠ g) (k : Nat) : PrI T w r p g n rk gp (l ++ [k]) (W.setCell ⟨g, k, none⟩ (.bool true)) :=
  ⟨h.c4.kept (Below.heap_setCell _ _ _ _ hgp), h.zr.kept (Below.heap_setCell _ _ _ _ hrg), by rw [← mkB_set]; exact h.mks.set k true, h.bl.setCell (p := ⟨g, k, none⟩) hg _⟩
end Go.Proofs.YtdehjofmangmbaaGreat
