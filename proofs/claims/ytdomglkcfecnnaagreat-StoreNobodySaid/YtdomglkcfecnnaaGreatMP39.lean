/- Own texts, merged: DJ. -/
import Derived.Test.YtdomglkcfecnnaaGreatMP38
/- Check of forms: what the loop over the fields keeps. -/
namespace Go.Proofs.YtdomglkcfecnnaaGreat
open Go.RowKit Go.Shelf
theorem fields_stops {p q o cap : Nat} {x : Option Addr} {Ls : List FL} {t : ByteArray} {v2 : Value} {rows : Int} {w : World} (hL : Ls.length ≤ 1000000) (hcap : Ls.length ≤ cap)
    (hp : w.heap[p]? = some (.cells #[.string t, .slice x Ls.length cap, v2, .int .i64 rows] 27 (0, 0))) (hq : FRow w x q o Ls) (hql : q < w.heap.size) :
    SeqStopsK Fence.wide 5 Tryz.prog 48 #[.pointer (some ⟨p, 0, none⟩)] (encF Ls) (KeepP p q) (fun xs => xs.map (·.1) = List.range Ls.length) (fun pre => ∃ k, k ≤ Ls.length ∧ 0 < k ∧ pre.map (·.1) = List.range k) Ls.length w :=
  fun l J Jx W hW hA _ hY h0 => fields_in l p q o cap x Ls t v2 rows hL hcap W ((hW.block p (Array.getElem?_eq_some_iff.1 hp).1).trans hp) (hq.kept hW.size (hW.block q)) (Nat.lt_of_lt_of_le hql hW.size) J Jx hA hY h0
theorem row_blk {w : World} {n0 : Nat} {e : TypeId} {z n : Nat} {v : Value} {xs : List Value} (h : w.ownsRow n0 e z v n xs) {j : Nat} (hj : v.ownBlock = some j) : ∃ cur, w.heap[j]? = some (.cells cur e (0, 0)) ∧ n0 ≤ j := by
  rcases h.2 with ⟨rfl, _⟩ | ⟨g, cap, cur, rfl, hb, hg, _⟩
  · simp [Value.ownBlock] at hj
  · obtain rfl : g = j := by simpa [Value.ownBlock] using hj
    exact ⟨cur, hg, hb⟩
theorem keepsFrom_grown {B : Nat} {A C : World} {row : Option Nat} (hg : A.grownBy C row) (hr : ∀ r, row = some r → ∃ o : Obj, A.heap[r]? = some o ∧ o.isCells = true) : KeepsFrom B A C :=
  ⟨hg.size, fun k o _ hk ho => by
    by_cases e : some k = row
    · obtain ⟨o', h1, h2⟩ := hr k e.symm
      rw [h1] at hk
      cases hk
      rw [h2] at ho
      cases ho
    · exact (hg.block k (Array.getElem?_eq_some_iff.1 hk).1 e).trans hk⟩
/-- What the loop keeps. -/
structure CKI (w : World) (D : Array Value) (b p : Nat) (L : List Bnd) (i e : Int) (W : World) : Prop where
  d : W.heap[w.heap.size]? = some (.cells D 27 (0, 0))
  b2 : Box W (w.heap.size + 1) 3 (.int .i64 i)
  b3 : Box W (w.heap.size + 2) 39 (.int .i64 e)
  bb : ∃ v, Box W b 87 v ∧ W.ownsRow (p + 1) 96 5 v L.length (bflat L)
  bel : Below w.heap.size w W
  sz : p + 1 ≤ W.heap.size
theorem cki_own {α : Type} {w : World} {D : Array Value} {b p : Nat} {f : α → List Bnd} {i e : Int} {B : Nat} (hB : w.heap.size ≤ B) : OwnFrom B (fun s W => CKI w D b p (f s) i e W) := fun _ _ _ _ h hg hr => by
  have hk := cells_grown hg (fun r e => (hr r e).2)
  obtain ⟨v, h1, h2⟩ := h.bb
  exact ⟨(hk.2 _ _ h.d rfl).trans h.d, (hk.2 _ _ h.b2 rfl).trans h.b2, (hk.2 _ _ h.b3 rfl).trans h.b3,
    ⟨v, (hk.2 _ _ h1 rfl).trans h1, row_kept h2 (fun j hj => by obtain ⟨cur, q1, _⟩ := row_blk h2 hj; exact hk.2 _ _ q1 rfl)⟩,
    h.bel.grown hg h.bel.size (fun k e => by have := (hr k e).1; omega), Nat.le_trans h.sz hg.size⟩
theorem CKI.below {w : World} {D : Array Value} {b p : Nat} {L : List Bnd} {i e : Int} {W W' : World} (h : CKI w D b p L i e W) (hb : Below W.heap.size W W') : CKI w D b p L i e W' := by
  obtain ⟨v, h1, h2⟩ := h.bb
  exact ⟨(hb.block _ (Array.getElem?_eq_some_iff.1 h.d).1).trans h.d, (hb.block _ h.b2.lt).trans h.b2, (hb.block _ h.b3.lt).trans h.b3,
    ⟨v, (hb.block _ h1.lt).trans h1, row_kept h2 (fun j hj => hb.block j (h2.lt j hj).2)⟩, h.bel.trans (below_le hb h.bel.size), Nat.le_trans h.sz hb.size⟩
theorem keepP_below {p q : Nat} {A C : World} (hp : p < A.heap.size) (hq : q < A.heap.size) (h : Below A.heap.size A C) : KeepP p q A C := ⟨h.size, h.block p hp, h.block q hq⟩
theorem keepP_set {p q : Nat} {A : World} {a : Addr} {v : Value} (hp : p ≠ a.block) (hq : q ≠ a.block) : KeepP p q A (A.setCell a v) := ⟨by simp, Below.heap_setCell _ _ _ _ hp, Below.heap_setCell _ _ _ _ hq⟩
/-- A name more. -/
theorem cki_push {w W Wt w1 : World} {D : Array Value} {b p q B : Nat} {L : List Bnd} {bd : Bnd} {i e : Int} {v v1 : Value} (h : CKI w D b p L i e W) (hb : w.heap.size + 3 ≤ b ∧ b < p) (hq : q < w.heap.size) (hB : b < B)
    (h1 : Box W b 87 v) (h2 : W.ownsRow (p + 1) 96 5 v L.length (bflat L)) (hW : Below W.heap.size W Wt)
    (ho : w1.ownsRow (p + 1) 96 5 v1 (L.length + 1) (bflat L ++ bcs bd)) (hg : Wt.grownBy w1 v.ownBlock) :
    Box w1 b 87 v ∧ CKI w D b p (L ++ [bd]) i e (w1.setCell ⟨b, 0, none⟩ v1) ∧ KeepP p q W (w1.setCell ⟨b, 0, none⟩ v1) ∧ KeepsFrom B W (w1.setCell ⟨b, 0, none⟩ v1) := by
  have hsz := h.sz
  have hws := hW.size
  have hgs := hg.size
  have hk : ∀ j, j < p + 1 → w1.heap[j]? = W.heap[j]? := fun j hj =>
    (hg.block j (by omega) (fun e => by have := (h2.lt j e.symm).1; omega)).trans (hW.block j (by omega))
  have hbx : Box w1 b 87 v := (hk b (by omega)).trans h1
  have hrt : ∀ r, v.ownBlock = some r → ∃ o : Obj, Wt.heap[r]? = some o ∧ o.isCells = true := fun r hr => by
    obtain ⟨cur, q1, _⟩ := row_blk h2 hr
    exact ⟨_, (hW.block r (Array.getElem?_eq_some_iff.1 q1).1).trans q1, rfl⟩
  have hbel : Below w.heap.size w w1 := ⟨hg.os.trans (hW.os.trans h.bel.os), hg.tape.trans (hW.tape.trans h.bel.tape), hg.output.trans (hW.output.trans h.bel.output), by have := h.bel.size; omega, fun j hj => (hk j (by omega)).trans (h.bel.block j hj)⟩
  refine ⟨hbx, ⟨(set_other (by omega)).trans ((hk _ (by omega)).trans h.d), (set_other (by omega)).trans ((hk _ (by omega)).trans h.b2), (set_other (by omega)).trans ((hk _ (by omega)).trans h.b3), ⟨v1, hbx.set v1, ?_⟩,
    hbel.setCell (p := ⟨b, 0, none⟩) (show w.heap.size ≤ b by omega) _, by simp; omega⟩, ⟨by simp; omega, (set_other (by omega)).trans (hk p (by omega)), (set_other (by omega)).trans (hk q (by omega))⟩, ?_⟩
  · rw [List.length_append, List.length_singleton, bflat_snoc]
    exact row_kept ho (fun j hj => set_other (by have := (ho.lt j hj).1; omega))
  · exact ((keepsFrom_below hW).trans (keepsFrom_grown hg hrt)).trans (keepsFrom_set w1 ⟨b, 0, none⟩ v1 hB)
/-- The end of a round that finds a fault. -/
structure CKX (w : World) (i e : Int) (W : World) : Prop where
  b2 : Box W (w.heap.size + 1) 3 (.int .i64 i)
  b3 : Box W (w.heap.size + 2) 39 (.int .i64 e)
  bel : Below w.heap.size w W
theorem ckx_own {α : Type} {w : World} {i e : Int} {B : Nat} (hB : w.heap.size ≤ B) : OwnFrom B (fun (_ : α) W => CKX w i e W) := fun _ _ _ _ h hg hr => by
  have hk := cells_grown hg (fun r e => (hr r e).2)
  exact ⟨(hk.2 _ _ h.b2 rfl).trans h.b2, (hk.2 _ _ h.b3 rfl).trans h.b3, h.bel.grown hg h.bel.size (fun k e => by have := (hr k e).1; omega)⟩
theorem CKI.put {w : World} {D : Array Value} {b p : Nat} {L : List Bnd} {i e : Int} {W : World} (h : CKI w D b p L i e W) (i' e' : Int) :
    CKX w i' e' ((W.setCell ⟨w.heap.size + 1, 0, none⟩ (.int .i64 i')).setCell ⟨w.heap.size + 2, 0, none⟩ (.int .i64 e')) :=
  ⟨(set_other (by omega)).trans (Box.set h.b2 _), Box.set ((set_other (by omega)).trans h.b3) _, (h.bel.setCell (p := ⟨w.heap.size + 1, 0, none⟩) (show w.heap.size ≤ w.heap.size + 1 by omega) _).setCell (p := ⟨w.heap.size + 2, 0, none⟩) (show w.heap.size ≤ w.heap.size + 2 by omega) _⟩
theorem ckx_end {w W : World} {i e : Int} (h : CKX w i e W) {D : Nat} (hD : w.heap.size + 3 ≤ D) (hK : W.heap[D]? = some (.deferred (some []))) :
    (W.putObj D (.deferred none)).cell? ⟨w.heap.size + 1, 0, none⟩ = some (.int .i64 i) ∧ (W.putObj D (.deferred none)).cell? ⟨w.heap.size + 2, 0, none⟩ = some (.int .i64 e) ∧ Below w.heap.size w (W.putObj D (.deferred none)) :=
  ⟨Box.cell ((World.putObj_heap_other (by omega)).trans h.b2), Box.cell ((World.putObj_heap_other (by omega)).trans h.b3), h.bel.trans (belowK_b (w := w) (Nat.le_refl _) W D _ _ (by omega) hK rfl rfl)⟩
/-! ### What the loop finds -/
theorem bndsN_len (fs : List Fld) (k : Nat) : (bndsN fs k).length = k := by simp [bndsN]
theorem bnds_pre {n : Nat} {fs : List Fld} {pre : List (Fin n)} {k : Nat} (h : pre.map (·.1) = List.range k) : pre.map (fun y => bndF (fldA fs y.1)) = bndsN fs k := by
  have : pre.map (fun y => bndF (fldA fs y.1)) = (pre.map (·.1)).map (fun i => bndF (fldA fs i)) := by simp [List.map_map, Function.comp_def]
  rw [this, h]
  rfl
theorem snoc_rangeF {n : Nat} {pre : List (Fin n)} {y : Fin n} {q : Nat} (h : (pre ++ [y]).map (·.1) = List.range q) : ∃ j, q = j + 1 ∧ pre.map (·.1) = List.range j ∧ y.1 = j := by
  have hl := congrArg List.length h
  simp at hl
  subst hl
  rw [List.range_succ, List.map_append] at h
  obtain ⟨h1, h2⟩ := List.append_inj' h (by simp)
  exact ⟨pre.length, rfl, h1, by simpa using h2⟩
end Go.Proofs.YtdomglkcfecnnaaGreat
