/- Walks: the usual styles, New, made, Get. -/
import Derived.Test.YtlhfdpeidlbomaaDoorT9
import Derived.Deep.WholeRow
import Derived.Deep.MidRow
namespace Go.Proofs.YtlhfdpeidlbomaaDoor
open Go.RowKit Go.Shelf
def styL (y : Sty) : List Value := [.bool y.b, .bool y.u, .bool y.i, .int .i64 y.f, .int .i64 y.g]
def flatS (ys : List Sty) : List Value := ys.flatMap styL
theorem flatS_len (ys : List Sty) : (flatS ys).length = ys.length * 5 := by
  induction ys with
  | nil => rfl
  | cons y ys ih => simp only [flatS, List.flatMap_cons, List.length_append, styL, List.length_cons, List.length_nil] at ih ⊢; rw [ih]; omega
def nthY (ys : List Sty) (k : Nat) : Sty := ys.getD k sty0
theorem flatS_get (ys : List Sty) (k : Nat) (hk : k < ys.length) (j : Nat) (hj : j < 5) : (flatS ys)[k * 5 + j]? = (styL (nthY ys k))[j]? := by
  induction ys generalizing k with
  | nil => simp at hk
  | cons y ys ih =>
    have e : flatS (y :: ys) = styL y ++ flatS ys := by simp [flatS]
    rw [e]
    cases k with
    | zero => rw [List.getElem?_append_left (by simp [styL]; omega)]; simp [nthY]
    | succ k =>
      rw [List.getElem?_append_right (by simp [styL]; omega)]
      have := ih k (by simpa using hk)
      rw [show (k + 1) * 5 + j - (styL y).length = k * 5 + j by simp [styL]; omega, this]
      rfl
def thCells (ys : List Sty) : Array Value := (flatS ys ++ [Value.bool true]).toArray
/-- A block that holds a theme of these styles. -/
structure ThAt (w : World) (b : Nat) (ys : List Sty) : Prop where
  blk : w.heap[b]? = some (.cells (thCells ys) 69 (0, 0))
  len : ys.length = 10
theorem ThAt.lt {w : World} {b : Nat} {ys : List Sty} (h : ThAt w b ys) : b < w.heap.size := (Array.getElem?_eq_some_iff.1 h.blk).1
theorem ThAt.frozen {w : World} {b : Nat} {ys : List Sty} (h : ThAt w b ys) (o : Nat) : w.frozen? ⟨b, o, none⟩ = false := by have := h.blk; simp [World.frozen?, this]
theorem ThAt.cellJ {w : World} {b : Nat} {ys : List Sty} (h : ThAt w b ys) (k : Nat) (hk : k < 10) (j : Nat) (hj : j < 5) : w.cell? ⟨b, k * 5 + j, none⟩ = (styL (nthY ys k))[j]? := by
  have h1 := h.blk
  have h2 := h.len
  have e : (thCells ys)[k * 5 + j]? = (styL (nthY ys k))[j]? := by
    rw [thCells, List.getElem?_toArray, List.getElem?_append_left (by rw [flatS_len]; omega), flatS_get ys k (by omega) j hj]
  simpa [World.cell?, h1] using e
theorem ThAt.get {w : World} {b : Nat} {ys : List Sty} (h : ThAt w b ys) (k : Nat) (hk : k < 10) :
    w.cell? ⟨b, k * 5, none⟩ = some (.bool (nthY ys k).b) ∧ w.cell? ⟨b, k * 5 + 1, none⟩ = some (.bool (nthY ys k).u) ∧ w.cell? ⟨b, k * 5 + 2, none⟩ = some (.bool (nthY ys k).i) ∧ w.cell? ⟨b, k * 5 + 3, none⟩ = some (.int .i64 (nthY ys k).f) ∧ w.cell? ⟨b, k * 5 + 4, none⟩ = some (.int .i64 (nthY ys k).g) :=
  ⟨h.cellJ k hk 0 (by omega), h.cellJ k hk 1 (by omega), h.cellJ k hk 2 (by omega), h.cellJ k hk 3 (by omega), h.cellJ k hk 4 (by omega)⟩
theorem ThAt.ok {w : World} {b : Nat} {ys : List Sty} (h : ThAt w b ys) : w.cell? ⟨b, 50, none⟩ = some (.bool true) := by
  have h1 := h.blk
  have e : (thCells ys)[50]? = some (.bool true) := by
    rw [thCells, List.getElem?_toArray, List.getElem?_append_right (by rw [flatS_len, h.len]; omega), flatS_len, h.len]
    rfl
  simpa [World.cell?, h1] using e
theorem ThAt.kept {w w' : World} {b n : Nat} {ys : List Sty} (h : ThAt w b ys) (hb : b < n) (hB : Below n w w') : ThAt w' b ys := ⟨(hB.block b hb).trans h.blk, h.len⟩
def usualL : List Sty := [⟨true, false, false, 0, 0⟩, sty0, ⟨true, false, false, 0, 0⟩, sty0, sty0, ⟨false, false, false, 3, 0⟩, ⟨false, false, true, 0, 0⟩, ⟨false, false, false, 7, 0⟩, ⟨true, false, false, 2, 0⟩, ⟨false, false, false, 5, 0⟩]
theorem wpList_build_is {P : Program} {ops : Array Oper} {rest : List Oper} {o : Oper} {a : Act} {w : World} {Q : Exit → Act → World → Prop} (hg : o.guard = none) (t : TypeId) (parts : Array (Nat × Operand)) (ho : o.op = .build t parts) (cells : Array Value)
    (hf : P.built t (parts.map fun (i, x) => (i, a.eval x)).toList = some cells)
    (h : wpList P ops Q rest (a.put o.dst (.agg cells)) w) : wpList P ops Q (o :: rest) a w :=
  wpList_build hg t parts ho (by rw [hf]; rfl) (by rw [hf]; exact h)
def usualA : Array Value := (flatS usualL).toArray
theorem usualA_one : usualA.all (·.oneCell') = true := by kernel_rfl
set_option maxRecDepth 100000 in
set_option maxHeartbeats 400000 in
theorem wusual (w : World) : Calls Tryd.prog 39 #[] w fun e w' => e = .returned (.agg usualA) ∧ w' = w.alloc (.cells usualA 67) := by
  have HS := Lib.hid (fun (c : Array Value) => World.setRow_alloc_new w c usualA 67)
  go_enter Tryd.func39, Tryd.ntmps39
  go_wp2_with (first | (with_reducible refine wpList_build_is rfl 67 _ rfl usualA (by kernel_rfl) ?_) | (with_reducible refine wpList_store_row rfl 67 _ _ rfl w.heap.size usualA rfl rfl 67 _ (heap_alloc_new _ _) (by kernel_rfl) (by kernel_rfl) usualA_one ?_))
  rw [HS.out]
  exact bodyPost_ret (results_cell rfl _ _ w.heap.size 67 usualA (0, 0) _ rfl (heap_alloc_new _ _) Tryd.underlying67 rfl (by kernel_rfl)) rfl ⟨rfl, rfl⟩
set_option maxRecDepth 100000 in
set_option maxHeartbeats 4000000 in
theorem wusualR (w : World) : Calls Tryd.prog 17 #[] w fun e w' => e = .returned (.slice (some ⟨w.heap.size, 0, none⟩) 10 10) ∧ w' = w.alloc (.cells usualA 23) := by
  go_enter Tryd.func17, Tryd.ntmps17
  go_wp2
  go_ret
  exact ⟨rfl, rfl⟩
set_option maxRecDepth 100000 in
set_option maxHeartbeats 4000000 in
theorem wnew (w : World) : Calls Tryd.prog 16 #[] w fun e w' => e = .returned (.pointer (some ⟨w.heap.size + 1, 0, none⟩)) ∧ ThAt w' (w.heap.size + 1) usualL ∧ Below w.heap.size w w' := by
  have H : Hid (ThAt ((w.alloc (.cells usualA 67)).alloc (.cells (thCells usualL) 69)) (w.heap.size + 1) usualL ∧ Below w.heap.size w ((w.alloc (.cells usualA 67)).alloc (.cells (thCells usualL) 69))) :=
    Lib.hid ⟨⟨by have := heap_alloc_new (w.alloc (.cells usualA 67)) (.cells (thCells usualL) 69); simpa using this, rfl⟩, ((Below.refl _ _).alloc (Nat.le_refl _) _).alloc (by simp) _⟩
  go_enter Tryd.func16, Tryd.ntmps16
  go_wp2_with (first | (go_at_call 39; fail))
  go_at_call 39
  refine (wusual _).mono ?_
  rintro e w1 ⟨rfl, rfl⟩
  go_wp2_with (first | (with_reducible refine wpList_build_is rfl 69 _ rfl (thCells usualL) (by kernel_rfl) ?_))
  go_ret
  exact ⟨rfl, H.out⟩
end Go.Proofs.YtlhfdpeidlbomaaDoor
