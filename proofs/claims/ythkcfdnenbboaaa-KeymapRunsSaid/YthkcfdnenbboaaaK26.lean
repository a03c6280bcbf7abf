/- The iterator over all bindings: what a round must keep; its walk. -/
import Derived.Test.YthkcfdnenbboaaaK25
import Derived.RangeFuncBox
import Derived.RangeFuncFrom
import Derived.Maps.OwnIn
import Derived.Maps.AppendAt
namespace Go.Proofs.Ythkcfdnenbboaaa
open Go.RowKit Go.Shelf Go.Maps Go.Sort Go.ChangeMaps
attribute [local go_sem] Oper.semAt_some
/-- The block that the slice in a box owns. -/
def ownAt (A : World) (bx : Nat) : Option Nat := (A.cell? ⟨bx, 0, none⟩).bind Value.ownBlock
def IsRow (o : Option Obj) : Prop := ∃ cur r, o = some (.cells cur 9 r) ∨ o = some (.cells cur 30 r)
/-- What a round keeps: every row of texts or acts that lies ahead of the one that the box's slice owns. -/
structure KeepI (bx : Nat) (A B : World) : Prop where
  size : A.heap.size ≤ B.heap.size
  own : ∀ j, ownAt B bx = some j → (∃ g, ownAt A bx = some g ∧ g ≤ j) ∨ A.heap.size ≤ j
  row : ∀ j, IsRow A.heap[j]? → (∀ g, ownAt A bx = some g → j < g) → B.heap[j]? = A.heap[j]?
theorem KeepI.refl (bx : Nat) (A : World) : KeepI bx A A := ⟨Nat.le_refl _, fun j h => .inl ⟨j, h, Nat.le_refl _⟩, fun _ _ _ => rfl⟩
theorem isRow_lt {A : World} {j : Nat} (h : IsRow A.heap[j]?) : j < A.heap.size := by
  obtain ⟨cur, r, h | h⟩ := h <;> exact (Array.getElem?_eq_some_iff.1 h).1
theorem KeepI.trans {bx : Nat} {A B C : World} (h : KeepI bx A B) (k : KeepI bx B C) : KeepI bx A C := by
  refine ⟨Nat.le_trans h.size k.size, fun j hj => ?_, fun j hr hn => ?_⟩
  · rcases k.own j hj with ⟨g, q, hg⟩ | q
    · rcases h.own g q with ⟨g0, z, hz⟩ | z
      · exact .inl ⟨g0, z, Nat.le_trans hz hg⟩
      · exact .inr (Nat.le_trans z hg)
    · exact .inr (Nat.le_trans h.size q)
  · have h1 := h.row j hr hn
    have hlt := isRow_lt hr
    refine (k.row j (by rw [h1]; exact hr) (fun g q => ?_)).trans h1
    rcases h.own g q with ⟨g0, z, hz⟩ | z
    · have := hn g0 z; omega
    · omega
theorem keepI_b {bx : Nat} {w : World} (hb : bx < w.heap.size) : ∀ (W : World) (l : Nat) (o o' : Obj), w.heap.size ≤ l → W.heap[l]? = some o → o.isCells = false → o.isWalk = false → KeepI bx W (W.putObj l o') := fun W l o o' hl ho h1 _ => by
  have e : ownAt (W.putObj l o') bx = ownAt W bx := by unfold ownAt; rw [World.cell?_of_block (World.putObj_heap_other (show bx ≠ l by omega))]
  refine ⟨by simp, fun j hj => .inl ⟨j, by rwa [e] at hj, Nat.le_refl _⟩, fun j hr _ => World.putObj_heap_other (fun q => ?_)⟩
  subst q
  obtain ⟨cur, r, h | h⟩ := hr <;> (rw [h] at ho; cases ho; simp [Obj.isCells] at h1)
theorem Try.info30 : (Try.prog.info? 30).map (fun i => (i.zero, i.size, i.bytes)) = some (some (.int .i64 0), 1, 8) := by kernel_rfl
theorem names_unique {f : Bnd} {ss ss' : List (List UInt8)} (h : NamesOf f ss) (h' : NamesOf f ss') : ss = ss' := by
  have hp : ss.Perm ss' := (List.perm_ext_iff_of_nodup (names_nodup h) (names_nodup h')).2 fun x => by rw [h.2, h'.2]
  exact List.Perm.eq_of_pairwise (le := fun a b => a < b) (fun a b _ _ h1 h2 => absurd (List.lt_trans h1 h2) (List.lt_irrefl _)) h.1 h'.1 hp
/-- The i-th name that is bound, and its act. -/
def nmAt (ss : List (List UInt8)) (i : Nat) : ByteArray := mkS (ss.getD i [])
theorem nm_get {ss : List (List UInt8)} {i : Nat} (hi : i < ss.length) : (ss.map encStr)[i]? = some (.string (nmAt ss i)) := by
  simp [nmAt, List.getD, hi, encStr, mkS]
theorem nm_has {f : Bnd} {ss : List (List UInt8)} (h : NamesOf f ss) {i : Nat} (hi : i < ss.length) : f.has (nmAt ss i) = true := by
  have := (h.2 ss[i]).1 (List.getElem_mem hi)
  simpa [nmAt, List.getD, hi] using this
theorem owns_slice {w : World} {base : Nat} {e : TypeId} {z : Nat} {v : Value} {n : Nat} {xs : List Value} (h : w.ownsRow base e z v n xs) : ∃ x cap, v = .slice x n cap := by
  rcases h.2 with ⟨rfl, h0⟩ | ⟨g, cap, cur, rfl, _⟩
  · subst h0; exact ⟨_, _, rfl⟩
  · exact ⟨_, _, rfl⟩
theorem row_kept {w w' : World} {n0 : Nat} {e : TypeId} {z n : Nat} {v : Value} {xs : List Value} (h : w.ownsRow n0 e z v n xs) (hk : ∀ j, v.ownBlock = some j → w'.heap[j]? = w.heap[j]?) : w'.ownsRow n0 e z v n xs := by
  refine ⟨h.1, ?_⟩
  rcases h.2 with q | ⟨g, cap, cur, rfl, hb, hg, r⟩
  · exact .inl q
  · exact .inr ⟨g, cap, cur, rfl, hb, (hk g rfl).trans hg, r⟩
theorem row_block {w : World} {n0 : Nat} {e : TypeId} {z n : Nat} {v : Value} {xs : List Value} (h : w.ownsRow n0 e z v n xs) {j : Nat} (hj : v.ownBlock = some j) : ∃ cur, w.heap[j]? = some (.cells cur e (0, 0)) ∧ n0 ≤ j := by
  rcases h.2 with ⟨rfl, _⟩ | ⟨g, cap, cur, rfl, hb, hg, _⟩
  · simp [Value.ownBlock] at hj
  · obtain rfl : g = j := by simpa [Value.ownBlock] using hj
    exact ⟨cur, hg, hb⟩
/-- A row's cells. -/
theorem row_cell {w : World} {n0 n cap : Nat} {e : TypeId} {x : Option Addr} {xs : List Value} (h : w.ownsRow n0 e 1 (.slice x n cap) n xs) {i : Nat} (hi : i < n) : ∃ g, x = some ⟨g, 0, none⟩ ∧ g < w.heap.size ∧ ∀ i, i < n → w.cell? ⟨g, i, none⟩ = xs[i]? := by
  have h' := h
  rcases h.2 with ⟨hv, h0⟩ | ⟨g, cp, cur, hv, hb, hg, hnc, hcm, hcs, htake⟩
  · omega
  · cases hv
    refine ⟨g, rfl, (Array.getElem?_eq_some_iff.1 hg).1, fun i hi => ?_⟩
    exact h'.cellAt i (by omega)
def acts (f : Bnd) (ss : List (List UInt8)) (k : Nat) : List Value := (List.range k).map fun i => .int .i64 (f.act (nmAt ss i))
theorem acts_snoc (f : Bnd) (ss : List (List UInt8)) (k : Nat) : acts f ss (k + 1) = acts f ss k ++ [.int .i64 (f.act (nmAt ss k))] := by simp [acts, List.range_succ]
theorem acts_get (f : Bnd) (ss : List (List UInt8)) {n i : Nat} (hi : i < n) : (acts f ss n)[i]? = some (.int .i64 (f.act (nmAt ss i))) := by simp [acts, hi]
/-- 'm.m[name]' inside a fence. -/
theorem wpListIn_look {F : Fence} {nF : Nat} {P : Program} (w : World) {ops : Array Oper} {rest : List Oper} {o : Oper} {a : Act} {Q : Exit → Act → World → Prop}
    (hP : P = Try.prog) (hg : o.guard = none) (m x : Operand) (hop : o.op = Op.lookup 66 m x false) (mb M c : Nat) (f : Bnd) (hm : a.eval m = .map (some mb)) (hmap : MapF w mb M c f) (s : ByteArray) (hx : a.eval x = .string s) (hs : s.size ≤ maxLen)
    (hK : wpListIn F nF P ops Q rest (a.put o.dst (.int .i64 (f.act s))) w) : wpListIn F nF P ops Q (o :: rest) a w := by
  subst hP
  refine wpListIn_plain hg fun K' hK' => ?_
  have hrun := hmap.look s hs
  unfold Oper.wpIn
  refine ⟨by simp [Oper.about, hop], ?_⟩
  rw [Oper.semAt_plain F _ _ (by rw [hop]; intro c hc'; cases hc')]
  simp [execOp, hop, hm, hx, hrun, Result.andThen]
  exact hK' _ _ hK
end Go.Proofs.Ythkcfdnenbboaaa
