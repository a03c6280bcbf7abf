/- Ranging over all bindings: a slice in a box is appended to; told. -/
import Derived.Test.YthkcfdnenbboaaaK27
namespace Go.Proofs.Ythkcfdnenbboaaa
open Go.RowKit Go.Shelf Go.Maps Go.Sort Go.ChangeMaps
attribute [local go_sem] Oper.semAt_some
def benc (f : Bnd) (ss : List (List UInt8)) (x : Fin ss.length) : Array Value := #[.string (nmAt ss x.1), .int .i64 (f.act (nmAt ss x.1))]
theorem all_stops {b mb m c : Nat} {f : Bnd} {ss : List (List UInt8)} {w w1 : World} (hM : MapI w b mb m c f) (hm : m ≤ 100000) (hs : NamesOf f ss) (hB : Below w.heap.size w w1) (Bp bx : Nat) (hBp : Bp < w1.heap.size) (hc : w1.cell? ⟨Bp, 0, none⟩ = some (.pointer (some ⟨b, 0, none⟩)))
    (hbx : bx < w1.heap.size) (hcx : w1.cell? ⟨bx, 0, none⟩ = some (.slice none 0 0)) :
    SeqStopsK Fence.wide 5 Try.prog 59 #[.pointer (some ⟨Bp, 0, none⟩)] (benc f ss) (KeepI bx) (fun xs => xs.map (·.1) = List.range ss.length) (fun pre => ∃ k, k ≤ ss.length ∧ 0 < k ∧ pre.map (·.1) = List.range k) ss.length w1 := fun l J Jx W hW hA _ hY h0 => by
  refine (iter_in l Bp bx b mb m c f ss w W hM hm hs (hB.trans (hW.mono hB.size)) ((hW.cell (p := ⟨Bp, 0, none⟩) hBp).trans hc) (by have := hW.size; omega) ((hW.cell (p := ⟨bx, 0, none⟩) hbx).trans hcx) (by have := hW.size; omega)
    (fun q W => ∃ fs : List (Fin ss.length), q = fs.map (·.1) ∧ J fs W) (fun q W => ∃ fs : List (Fin ss.length), q = fs.map (·.1) ∧ Jx fs W) (fun s A B row ⟨fs, h1, h2⟩ hg hr => ⟨fs, h1, hA fs A B row h2 hg hr⟩) ?_ ⟨[], rfl, h0⟩).mono ?_
  · rintro k W1 ⟨fs, hfs, hJ⟩ hlt
    have hl : fs.length = k := by have := congrArg List.length hfs; simpa using this.symm
    refine (hY fs ⟨k, hlt⟩ W1 hJ (by omega)).mono ?_
    have e : List.range (k + 1) = (fs ++ [(⟨k, hlt⟩ : Fin ss.length)]).map (·.1) := by rw [List.range_succ, hfs]; simp
    rintro e' W' (⟨he, h1, h2⟩ | ⟨he, h1⟩)
    · exact .inl ⟨he, ⟨_, e, h1⟩, h2⟩
    · exact .inr ⟨he, _, e, h1⟩
  · rintro e W' ⟨he, ⟨xs, hx, fs, hf, hJ⟩ | ⟨pre, ⟨k, h1, h2, h3⟩, fs, hf, hJ⟩⟩
    · exact ⟨he, .inl ⟨fs, hf.symm.trans hx, hJ⟩⟩
    · exact ⟨he, .inr ⟨fs, ⟨k, h1, h2, hf.symm.trans h3⟩, hJ⟩⟩
theorem keepsFrom_set {B : Nat} (W : World) (a : Addr) (v : Value) (h : a.block < B) : KeepsFrom B W (W.setCell a v) := ⟨by simp, fun k o hk ho _ => by rw [Below.heap_setCell _ _ _ _ (by omega)]; exact ho⟩
/-- The lowest block that an append to v may give. -/
def baseOf (W : World) (v : Value) : Nat := v.ownBlock.getD W.heap.size
theorem rebase {w : World} {n0 : Nat} {e : TypeId} {z n : Nat} {v : Value} {xs : List Value} (h : w.ownsRow n0 e z v n xs) : w.ownsRow (baseOf w v) e z v n xs := by
  refine ⟨h.1, h.2.imp id ?_⟩
  rintro ⟨g, cap, cur, rfl, h2, h3⟩
  exact ⟨g, cap, cur, rfl, Nat.le_refl _, h3⟩
theorem owns_weak {w : World} {b b' : Nat} {e : TypeId} {z n : Nat} {v : Value} {xs : List Value} (h : w.ownsRow b e z v n xs) (hb : b' ≤ b) : w.ownsRow b' e z v n xs := by
  refine ⟨h.1, h.2.imp id ?_⟩
  rintro ⟨g, cap, cur, h1, h2, h3⟩
  exact ⟨g, cap, cur, h1, Nat.le_trans hb h2, h3⟩
theorem baseOf_le {w : World} {n0 : Nat} {e : TypeId} {z n : Nat} {v : Value} {xs : List Value} (h : w.ownsRow n0 e z v n xs) (h0 : n0 ≤ w.heap.size) : baseOf w v ≤ w.heap.size ∧ n0 ≤ baseOf w v := by
  unfold baseOf
  cases hv : v.ownBlock with
  | none => exact ⟨Nat.le_refl _, h0⟩
  | some g =>
    obtain ⟨cur, h1, h2⟩ := row_block h hv
    have := (Array.getElem?_eq_some_iff.1 h1).1
    exact ⟨by simp only [Option.getD_some]; omega, h2⟩
/-- What the loop's body keeps: a box that it reads, a box with a slice that it appends to. -/
def BI (w : World) (n : Nat) (t0 : TypeId) (v0 : Value) (bx : Nat) (tb e : TypeId) (z : Nat) (k : Nat) (vs : List Value) (W : World) : Prop :=
  Boxed W n t0 v0 ∧ (∃ v, Boxed W bx tb v ∧ W.ownsRow (n + 3) e z v k vs ∧ True) ∧ Below n w W ∧ n + 3 ≤ W.heap.size
theorem boxed_own {β : Type} (B n : Nat) (t : TypeId) (f : β → Value) : OwnFrom B (fun (b : β) W => Boxed W n t (f b)) := fun _ _ _ _ hs hg hr =>
  (grownBy_keeps_cells hg (fun r e => (hr r e).2) hs rfl).trans hs
theorem size_own {β : Type} (B n : Nat) : OwnFrom B (fun (_ : β) W => n ≤ W.heap.size) := fun _ _ _ _ hs hg _ => Nat.le_trans hs hg.size
theorem bi_own {β : Type} (w : World) (B n : Nat) (t0 : TypeId) (v0 : Value) (bx : Nat) (tb e : TypeId) (z : Nat) (hn : n ≤ w.heap.size) (hB : n ≤ B) (k : β → Nat) (vs : β → List Value) : OwnFrom B (fun b W => BI w n t0 v0 bx tb e z (k b) (vs b) W) :=
  OwnFrom.and (boxed_own _ _ _ _) (OwnFrom.and (fun s X Y row h hg hr => holdsRow_own (n + 3) bx tb e z k vs (fun _ _ => True) s X Y row h hg (fun r e => (hr r e).2)) (OwnFrom.and (ownFrom_below hn hB) (size_own _ _)))
theorem bi_keep {w W w1 : World} {n : Nat} {t0 : TypeId} {v0 : Value} {bx : Nat} {tb e : TypeId} {z k k' : Nat} {vs ys : List Value} {tmp : Obj} {v v' : Value} (hbx : n < bx ∧ bx < n + 3) (htb : tb ≠ 9 ∧ tb ≠ 30) (hte : tb ≠ e)
    (h1 : Boxed W n t0 v0) (h2 : Boxed W bx tb v) (h3 : W.ownsRow (n + 3) e z v k vs) (h5 : Below n w W) (h6 : n + 3 ≤ W.heap.size)
    (hown : w1.ownsRow (baseOf W v) e z v' k' ys) (hgrow : (W.alloc tmp).grownBy w1 v.ownBlock) :
    (Boxed w1 bx tb v) ∧ BI w n t0 v0 bx tb e z k' ys (w1.setCell ⟨bx, 0, none⟩ v') ∧ KeepsFrom (n + 3) W (w1.setCell ⟨bx, 0, none⟩ v') ∧ KeepI bx W (w1.setCell ⟨bx, 0, none⟩ v') := by
  obtain ⟨hb1, hb2⟩ := baseOf_le h3 h6
  have hown3 := owns_weak hown hb2
  have hne : ∀ j, j < n + 3 → some j ≠ v.ownBlock := fun j hj e => by have := (h3.lt j e.symm).1; omega
  have hk1 : ∀ j, j < n + 3 → w1.heap[j]? = W.heap[j]? := fun j hj => by
    rw [hgrow.block j (by simp; omega) (hne j hj), Below.heap_alloc _ _ _ (by omega)]
  obtain ⟨a1, a2, a3, a4, a5⟩ := Boxed.appended (n₀ := n) h2 hte (owns_weak h3 (by omega)) (by omega) (by omega) (owns_weak hown3 (by omega)) hgrow
  refine ⟨a1, ⟨(Below.heap_setCell _ _ _ _ (show n ≠ bx by omega)).trans ((hk1 n (by omega)).trans h1), ⟨v', a2, ?_, trivial⟩, h5.trans (a5.mono (by omega)), ?_⟩, a4.from _, ?_⟩
  · refine hown3.kept (grownBy_setCell' w1 _ _) ?_
    rcases h : v'.ownBlock with _ | j
    · exact .inl rfl
    · exact .inr (by have := (hown3.lt j h).1; simp; omega)
  · have := a4.size; omega
  · have o1 : ownAt W bx = v.ownBlock := by unfold ownAt; rw [h2.cell]; rfl
    have o2 : ownAt (w1.setCell ⟨bx, 0, none⟩ v') bx = v'.ownBlock := by unfold ownAt; rw [a2.cell]; rfl
    refine ⟨a4.size, fun j hj => ?_, fun j hr hn => ?_⟩
    · rw [o2] at hj
      obtain ⟨cur, _, hle⟩ := row_block hown hj
      unfold baseOf at hle
      rw [o1]
      cases hv : v.ownBlock with
      | none => rw [hv] at hle; exact .inr hle
      | some g => rw [hv] at hle; exact .inl ⟨g, rfl, hle⟩
    · have hlt := isRow_lt hr
      have hjb : j ≠ bx := fun q => by
        subst q
        obtain ⟨cur, r, h | h⟩ := hr <;> (rw [show W.heap[j]? = _ from h2] at h; simp at h; first | exact htb.1 h.2.1 | exact htb.2 h.2.1)
      rw [Below.heap_setCell _ _ _ _ hjb, hgrow.block j (by simp; omega) (fun q => by have := hn j (o1.trans q.symm); omega), Below.heap_alloc _ _ _ hlt]
end Go.Proofs.Ythkcfdnenbboaaa
