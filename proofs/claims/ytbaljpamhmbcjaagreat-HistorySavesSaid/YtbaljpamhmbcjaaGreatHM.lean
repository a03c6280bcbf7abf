/- Made histories in memory. -/
import Derived.Test.YtbaljpamhmbcjaaGreatHL
namespace Go.Proofs.YtbaljpamhmbcjaaGreat
open Go.RowKit Go.Shelf
/-- A walk. -/
structure Wk where
  on : Bool
  d : Bs
  bg : Bs
  at_ : Int
def Wk.no : Wk := ⟨false, [], [], 0⟩
/-- A row of lines in memory. -/
def RowL (W : World) (x : Option Addr) (c : Nat) (L : List Bs) : Prop := W.ownsRow 0 9 1 (.slice x L.length c) L.length (strs L)
def hisCells (m : Int) (x : Option Addr) (n c : Nat) (k : Wk) : Array Value := #[.int .i64 m, .slice x n c, .bool k.on, .string (tx k.d), .string (tx k.bg), .int .i64 k.at_]
/-- A made history in memory. -/
structure His (W : World) (b : Nat) (m : Int) (L : List Bs) (k : Wk) (x : Option Addr) (c : Nat) : Prop where
  hd : W.heap[b]? = some (.cells (hisCells m x L.length c k) 45 (0, 0))
  row : RowL W x c L
theorem RowL.kept {W W' : World} {x : Option Addr} {c : Nat} {L : List Bs} (h : RowL W x c L) (hk : ∀ j, x.map (·.block) = some j → W'.heap[j]? = W.heap[j]?) : RowL W' x c L :=
  row_kept h (fun j hj => hk j (by cases x with | none => cases hj | some a => exact hj))
theorem RowL.lt {W : World} {x : Option Addr} {c : Nat} {L : List Bs} (h : RowL W x c L) : ∀ j, x.map (·.block) = some j → j < W.heap.size ∧ ∃ cur, W.heap[j]? = some (.cells cur 9 (0, 0)) := fun j hj => by
  rcases h.2 with ⟨hv, _⟩ | ⟨g, cap, cur, hv, _, hg, _⟩
  · obtain ⟨rfl, _, _⟩ : x = none ∧ L.length = 0 ∧ c = 0 := by simpa using hv
    cases hj
  · obtain ⟨rfl, _⟩ : x = some ⟨g, 0, none⟩ ∧ c = cap := by simpa using hv
    cases hj
    exact ⟨(Array.getElem?_eq_some_iff.1 hg).1, cur, hg⟩
theorem RowL.below {W W' : World} {x : Option Addr} {c : Nat} {L : List Bs} (h : RowL W x c L) (hB : Below W.heap.size W W') : RowL W' x c L := h.kept (fun j hj => hB.block j (h.lt j hj).1)
theorem RowL.get {W : World} {x : Option Addr} {c : Nat} {L : List Bs} (h : RowL W x c L) (j : Nat) (hj : j < L.length) : ∃ g, x = some ⟨g, 0, none⟩ ∧ g < W.heap.size ∧ L.length ≤ c ∧ ∀ i, i < L.length → W.cell? ⟨g, i, none⟩ = some (.string (tx (L.getD i []))) := by
  have h2 := h.2
  rcases h2 with ⟨hv, h0⟩ | ⟨g, cap, cur, hv, _, hg, hnc, _⟩
  · omega
  · obtain ⟨rfl, rfl⟩ : x = some ⟨g, 0, none⟩ ∧ c = cap := by simpa using hv
    refine ⟨g, rfl, (Array.getElem?_eq_some_iff.1 hg).1, hnc, fun i hi => ?_⟩
    have := h.cellAt i (by omega)
    rw [this, strs, List.getElem?_map, List.getElem?_eq_getElem hi, List.getD_eq_getElem?_getD, List.getElem?_eq_getElem hi]
    rfl
theorem RowL.cap {W : World} {x : Option Addr} {c : Nat} {L : List Bs} (h : RowL W x c L) : L.length ≤ c := by
  rcases h.2 with ⟨hv, h0⟩ | ⟨g, cap, cur, hv, _, hg, hnc, _⟩
  · omega
  · obtain ⟨_, rfl⟩ : x = some ⟨g, 0, none⟩ ∧ c = cap := by simpa using hv
    exact hnc
theorem RowL.nil (W : World) : RowL W none 0 [] := World.ownsRow_nil _ _ _ _
theorem His.lt {W : World} {b : Nat} {m : Int} {L : List Bs} {k : Wk} {x : Option Addr} {c : Nat} (h : His W b m L k x c) : b < W.heap.size := (Array.getElem?_eq_some_iff.1 h.hd).1
theorem His.ne {W : World} {b : Nat} {m : Int} {L : List Bs} {k : Wk} {x : Option Addr} {c : Nat} (h : His W b m L k x c) : ∀ j, x.map (·.block) = some j → j ≠ b := fun j hj e => by
  obtain ⟨_, cur, hc⟩ := h.row.lt j hj
  rw [e, h.hd] at hc
  cases hc
theorem His.below {W W' : World} {b : Nat} {m : Int} {L : List Bs} {k : Wk} {x : Option Addr} {c : Nat} (h : His W b m L k x c) (hB : Below W.heap.size W W') : His W' b m L k x c :=
  ⟨(hB.block b h.lt).trans h.hd, h.row.below hB⟩
theorem His.cells {W : World} {b : Nat} {m : Int} {L : List Bs} {k : Wk} {x : Option Addr} {c : Nat} (h : His W b m L k x c) :
    W.cell? ⟨b, 0, none⟩ = some (.int .i64 m) ∧ W.cell? ⟨b, 1, none⟩ = some (.slice x L.length c) ∧ W.cell? ⟨b, 2, none⟩ = some (.bool k.on) ∧ W.cell? ⟨b, 3, none⟩ = some (.string (tx k.d)) ∧ W.cell? ⟨b, 4, none⟩ = some (.string (tx k.bg)) ∧ W.cell? ⟨b, 5, none⟩ = some (.int .i64 k.at_) ∧ ∀ j, W.frozen? ⟨b, j, none⟩ = false := by
  have := h.hd
  unfold hisCells at this
  refine ⟨?_, ?_, ?_, ?_, ?_, ?_, fun j => ?_⟩ <;> first | simp [World.cell?, this] | simp [World.frozen?, this]
/-- A walk set. -/
def setWk (W : World) (b : Nat) (k : Wk) : World := (((W.setCell ⟨b, 2, none⟩ (.bool k.on)).setCell ⟨b, 3, none⟩ (.string (tx k.d))).setCell ⟨b, 4, none⟩ (.string (tx k.bg))).setCell ⟨b, 5, none⟩ (.int .i64 k.at_)
theorem His.setW {W : World} {b : Nat} {m : Int} {L : List Bs} {k : Wk} {x : Option Addr} {c : Nat} (h : His W b m L k x c) (k' : Wk) : His (setWk W b k') b m L k' x c := by
  constructor
  · have := set_block (set_block (set_block (set_block h.hd (o := 2) (.bool k'.on)) (o := 3) (.string (tx k'.d))) (o := 4) (.string (tx k'.bg))) (o := 5) (.int .i64 k'.at_)
    exact this
  · exact h.row.kept (fun j hj => (set_other (h.ne j hj)).trans ((set_other (h.ne j hj)).trans ((set_other (h.ne j hj)).trans (set_other (h.ne j hj)))))
theorem His.setAt {W : World} {b : Nat} {m : Int} {L : List Bs} {k : Wk} {x : Option Addr} {c : Nat} (h : His W b m L k x c) (i : Int) : His (W.setCell ⟨b, 5, none⟩ (.int .i64 i)) b m L { k with at_ := i } x c :=
  ⟨set_block h.hd (o := 5) (.int .i64 i), h.row.kept (fun j hj => set_other (h.ne j hj))⟩
theorem But.setW {b : Nat} {w w' : World} (h : But [b] w w') (k : Wk) : But [b] w (setWk w' b k) := by
  unfold setWk
  exact (((h.set _ _ (by simp)).set _ _ (by simp)).set _ _ (by simp)).set _ _ (by simp)
theorem setWk_size (W : World) (b : Nat) (k : Wk) : (setWk W b k).heap.size = W.heap.size := by simp [setWk]
/-- What Add makes of the lines. -/
def addL (m : Nat) (L : List Bs) (l : Bs) : Bool × List Bs := if mayS l = true ∧ L.head? ≠ some l then (true, (l :: L.filter (fun y => decide (y ≠ l))).take m) else (false, L)
end Go.Proofs.YtbaljpamhmbcjaaGreat
