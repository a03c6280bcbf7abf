/- Walks: what the iterator yields. -/
import Derived.Test.YtepjdnokkgmhoaaD8
namespace Go.Proofs.Ytepjdnokkgmhoaa
open Go.RowKit Go.Shelf
attribute [local go_sem] Oper.semAt_some
theorem run_equalIn_func_nil (w : World) (d : Nat) (f : Fn) (a b : Array Value) : (Op.equalIn (d + 1) 63 (.func f a b) .nilFunc).run Try.prog w = .ok false w := by
  simp [Op.equalIn, run_underlying Try.underlying63]
theorem run_eql_func_nil (w : World) (f : Fn) (a b : Array Value) : (binOp .eql 63 (.func f a b) .nilFunc).run Try.prog w = .ok (.bool false) w := by
  simp only [binOp]
  simp [Op.equal, Op.maxDepth, run_equalIn_func_nil w 9999 f a b]
def okN (l : List Nat) : Bool := l == List.range l.length
theorem okN_snoc (l : List Nat) (y : Nat) : okN (l ++ [y]) = (okN l && (y == l.length)) := by
  unfold okN
  rw [Bool.eq_iff_iff]
  simp only [beq_iff_eq, Bool.and_eq_true, List.length_append, List.length_singleton, List.range_succ]
  constructor
  · intro h
    have := List.append_inj h (by simp)
    exact ⟨this.1, by simpa using this.2⟩
  · rintro ⟨h1, h2⟩
    rw [← h1, ← h2]
theorem owns_weak {w : World} {b b' : Nat} {e : TypeId} {z n : Nat} {v : Value} {xs : List Value} (h : w.ownsRow b e z v n xs) (hb : b' ≤ b) : w.ownsRow b' e z v n xs := by
  refine ⟨h.1, h.2.imp id ?_⟩
  rintro ⟨g, cap, cur, h1, h2, h3⟩
  exact ⟨g, cap, cur, h1, Nat.le_trans hb h2, h3⟩
/-- What the loop's body keeps: the bound, what was collected, whether it came in order. -/
def ToldI (w : World) (n : Nat) (most : Nat) (vs : List Value) (ok : Bool) (W : World) : Prop :=
  Boxed W n 3 (.int .i64 (most : Int)) ∧ (∃ v, Boxed W (n + 4) 38 v ∧ W.ownsRow (n + 6) 22 1 v vs.length vs ∧ True) ∧ Boxed W (n + 5) 4 (.bool ok) ∧ Below n w W ∧ n + 6 ≤ W.heap.size
theorem boxed_own {β : Type} (B n : Nat) (t : TypeId) (f : β → Value) : OwnFrom B (fun (b : β) W => Boxed W n t (f b)) := fun _ _ _ _ hs hg hr =>
  (grownBy_keeps_cells hg (fun r e => (hr r e).2) hs rfl).trans hs
theorem size_own {β : Type} (B n : Nat) : OwnFrom B (fun (_ : β) W => n ≤ W.heap.size) := fun _ _ _ _ hs hg _ => Nat.le_trans hs hg.size
theorem told_own {β : Type} (w : World) (B n most : Nat) (hn : n ≤ w.heap.size) (hB : n ≤ B) (vs : β → List Value) (ok : β → Bool) : OwnFrom B (fun b W => ToldI w n most (vs b) (ok b) W) :=
  OwnFrom.and (boxed_own _ _ _ _) (OwnFrom.and (fun s X Y row h hg hr => holdsRow_own (n + 6) (n + 4) 38 22 1 (fun b => (vs b).length) vs (fun _ _ => True) s X Y row h hg (fun r e => (hr r e).2)) (OwnFrom.and (boxed_own _ _ _ _) (OwnFrom.and (ownFrom_below hn hB) (size_own _ _))))
theorem told_keep {w W w1 : World} {n most : Nat} {vs : List Value} {ok ok' : Bool} {tmp : Obj} {v v' x : Value} (h1 : Boxed W n 3 (.int .i64 (most : Int))) (h2 : Boxed W (n + 4) 38 v) (h3 : W.ownsRow (n + 6) 22 1 v vs.length vs) (h4 : Boxed W (n + 5) 4 (.bool ok)) (h5 : Below n w W) (h6 : n + 6 ≤ W.heap.size)
    (hown : w1.ownsRow (n + 6) 22 1 v' (vs.length + 1) (vs ++ [x])) (hgrow : ((W.setCell ⟨n + 5, 0, none⟩ (.bool ok')).alloc tmp).grownBy w1 v.ownBlock) :
    (Boxed w1 (n + 4) 38 v) ∧ ToldI w n most (vs ++ [x]) ok' (w1.setCell ⟨n + 4, 0, none⟩ v') ∧ KeepsFrom (n + 6) W (w1.setCell ⟨n + 4, 0, none⟩ v') ∧ KeepB n (n + 1) W (w1.setCell ⟨n + 4, 0, none⟩ v') := by
  have g0 := grownBy_setCell' W (n + 5) (.bool ok')
  have k1 : Boxed (W.setCell ⟨n + 5, 0, none⟩ (.bool ok')) n 3 (.int .i64 (most : Int)) := h1.kept g0 (by simp)
  have k2 : Boxed (W.setCell ⟨n + 5, 0, none⟩ (.bool ok')) (n + 4) 38 v := h2.kept g0 (by simp)
  have k3 : (W.setCell ⟨n + 5, 0, none⟩ (.bool ok')).ownsRow (n + 6) 22 1 v vs.length vs := h3.kept g0 (by
    rcases h : v.ownBlock with _ | j
    · exact .inl rfl
    · exact .inr (by have := (h3.lt j h).1; simp; omega))
  have k4 : Boxed (W.setCell ⟨n + 5, 0, none⟩ (.bool ok')) (n + 5) 4 (.bool ok') := h4.set _
  have k5 : Below n W (W.setCell ⟨n + 5, 0, none⟩ (.bool ok')) := (Below.refl _ W).setCell (p := ⟨n + 5, 0, none⟩) (by simp) _
  have z0 : (W.setCell ⟨n + 5, 0, none⟩ (.bool ok')).heap.size = W.heap.size := by simp
  have kf : KeepsFrom (n + 6) W (W.setCell ⟨n + 5, 0, none⟩ (.bool ok')) := keepsFrom_set _ _ _ (by simp)
  have kb : ∀ j, j < 3 → (W.setCell ⟨n + 5, 0, none⟩ (.bool ok')).heap[n + 1 + j]? = W.heap[n + 1 + j]? := fun j hj => Below.heap_setCell _ _ _ _ (by show n + 1 + j ≠ n + 5; omega)
  generalize W.setCell ⟨n + 5, 0, none⟩ (.bool ok') = V at *
  have hne : ∀ j, j < n + 6 → some j ≠ v.ownBlock := fun j hj e => by have := (h3.lt j e.symm).1; omega
  have hb1 : ∀ j, j < n + 6 → w1.heap[j]? = V.heap[j]? := fun j hj => by
    rw [hgrow.block j (by simp; omega) (hne j hj), Below.heap_alloc _ _ _ (by omega)]
  have hb2 : ∀ j, j < n + 6 → j ≠ n + 4 → (w1.setCell ⟨n + 4, 0, none⟩ v').heap[j]? = V.heap[j]? := fun j hj h => (Below.heap_setCell _ _ _ _ h).trans (hb1 j hj)
  obtain ⟨a1, a2, a3, a4, a5⟩ := Boxed.appended (n₀ := n) k2 (by decide) (owns_weak k3 (by omega)) (by omega) (by omega) (owns_weak hown (by omega)) hgrow
  refine ⟨a1, ⟨(hb2 n (by omega) (by omega)).trans k1, ⟨v', a2, ?_, trivial⟩, (hb2 (n + 5) (by omega) (by omega)).trans k4, h5.trans (k5.trans a5 |>.mono (by have := h5.size; omega)), ?_⟩, kf.trans (a4.from _), k5.trans a5, fun j hj => (hb2 _ (by omega) (by omega)).trans (kb j hj)⟩
  · rw [List.length_append, List.length_singleton]
    refine hown.kept (grownBy_setCell' w1 _ _) ?_
    rcases h : v'.ownBlock with _ | j
    · exact .inl rfl
    · exact .inr (by have := (hown.lt j h).1; simp; omega)
  · have := a4.size; omega
end Go.Proofs.Ytepjdnokkgmhoaa
