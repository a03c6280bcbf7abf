/- Walk: Load: what its loop keeps. -/
import Derived.Test.YtbaljpamhmbcjaaGreatL1
namespace Go.Proofs.YtbaljpamhmbcjaaGreat
open Go.RowKit Go.Shelf Go.Lib
/-- A history that is being loaded. -/
structure LdI (w W : World) (m : Int) (D : List Bs) (x : Option Addr) (c : Nat) : Prop where
  hd : W.heap[w.heap.size]? = some (.cells (hisCells m x D.length c Wk.no) 45 (0, 0))
  row : W.ownsRow (w.heap.size + 1) 9 1 (.slice x D.length c) D.length (strs D)
  bel : Below w.heap.size w W
theorem LdI.below {w W W' : World} {m : Int} {D : List Bs} {x : Option Addr} {c : Nat} (h : LdI w W m D x c) (hb : Below W.heap.size W W') : LdI w W' m D x c :=
  ⟨(hb.block _ (Array.getElem?_eq_some_iff.1 h.hd).1).trans h.hd, row_kept h.row (fun j hj => hb.block j (h.row.lt j hj).2), h.bel.trans (below_le hb h.bel.size)⟩
theorem LdI.lt {w W : World} {m : Int} {D : List Bs} {x : Option Addr} {c : Nat} (h : LdI w W m D x c) : w.heap.size < W.heap.size := (Array.getElem?_eq_some_iff.1 h.hd).1
theorem LdI.his {w W : World} {m : Int} {D : List Bs} {x : Option Addr} {c : Nat} (h : LdI w W m D x c) : His W w.heap.size m D Wk.no x c := ⟨h.hd, row_base h.row⟩
theorem ldI_new (w : World) (m : Int) : LdI w (w.alloc (.cells #[.int .i64 m, .slice none 0 0, .bool false, .string ⟨#[]⟩, .string ⟨#[]⟩, .int .i64 0] 45)) m [] none 0 :=
  ⟨heap_alloc_new _ _, World.ownsRow_nil _ _ _ _, (Below.refl _ _).alloc (Nat.le_refl _) _⟩
theorem LdI.app {w W w2 : World} {m : Int} {D : List Bs} {x : Option Addr} {c : Nat} {T : ByteArray} {l : Bs} {x' : Option Addr} {c' : Nat} (h : LdI w W m D x c) (hT : T = tx l)
    (ho : w2.ownsRow (w.heap.size + 1) 9 1 (.slice x' (D.length + 1) c') (D.length + 1) (strs D ++ [.string T])) (hg : (W.alloc (.cells #[.string T] 9)).grownBy w2 (Value.slice x D.length c).ownBlock) :
    w2.cell? ⟨w.heap.size, 1, none⟩ = some (.slice x D.length c) ∧ w2.frozen? ⟨w.heap.size, 1, none⟩ = false ∧ LdI w (w2.setCell ⟨w.heap.size, 1, none⟩ (.slice x' (D.length + 1) c')) m (D ++ [l]) x' c' := by
  have hlt := h.lt
  have hb2 : Below (w.heap.size + 1) W w2 := ((Below.refl _ _).alloc (by omega) _).grown hg (by simp; omega) (fun k hk => (h.row.lt k hk).1)
  have hbb := (hb2.block w.heap.size (by omega)).trans h.hd
  have hl : (D ++ [l]).length = D.length + 1 := by simp
  refine ⟨by unfold hisCells at hbb; simp [World.cell?, hbb], by simp [World.frozen?, hbb], ?_, ?_, ?_⟩
  · rw [set_block hbb (o := 1), hl]
    rfl
  · rw [hl, strs_app, show strs [l] = [.string T] by rw [hT]; rfl]
    exact row_kept ho (fun j hj => set_other (by have := (ho.lt j hj).1; omega))
  · exact (h.bel.trans (below_le hb2 (by omega))).setCell (p := ⟨w.heap.size, 1, none⟩) (Nat.le_refl _) _
/-- A row of texts that was put in order. -/
theorem sorted_below {W wc : World} {B q n : Nat} {T : Array Bs} {os : Array Obj} (hb : Below B W wc) (hB : B ≤ W.heap.size) (hq : B ≤ q) : Below B W (Sort.grow (Sort.putRow encStr (Sort.ahead wc n) q 0 T) os) := by
  refine hb.trans ⟨rfl, rfl, rfl, by simp, fun k hk => ?_⟩
  rw [Sort.heap_grow_old _ _ (by have := hb.size; simp; omega)]
  simp only [Sort.putRow, Sort.mapBlock, Sort.heap_ahead, Array.getElem?_modify]
  rw [if_neg (by omega)]
theorem sorted_cells {wc : World} {q n : Nat} {L T : List Bs} {os : Array Obj} (hH : Sort.Holds encStr wc q 0 L.toArray) (hq : q < wc.heap.size) (hl : T.length = L.length) (j : Nat) (hj : j < T.length) :
    (Sort.grow (Sort.putRow encStr (Sort.ahead wc n) q 0 T.toArray) os).cell? ⟨q, j, none⟩ = some (.string (tx (T.getD j []))) := by
  rw [Sort.cell?_grow _ _ _ (by simpa using hq)]
  have := Sort.cell?_putRow encStr (Sort.ahead wc n) q 0 L.toArray T.toArray hH (by simpa using hl) j (by simpa using hj)
  rw [Nat.zero_add] at this
  rw [this, List.getD_eq_getElem?_getD, List.getElem?_eq_getElem hj]
  rw [getElem!_pos _ _ (by simpa using hj)]
  rfl
theorem holds_of_row {W : World} {base q cap : Nat} {L : List Bs} (h : W.ownsRow base 9 1 (.slice (some ⟨q, 0, none⟩) L.length cap) L.length (strs L)) : Sort.Holds encStr W q 0 L.toArray := by
  have h2 := h.2
  rcases h2 with ⟨hv, h0⟩ | ⟨g, cap', cur, hv, _, hg, hnc, _, hcs, _⟩
  · simp at hv
  · obtain ⟨rfl, rfl⟩ : q = g ∧ cap = cap' := by simpa using hv
    intro j hj
    have hj' : j < L.length := by simpa using hj
    have h3 := h.cellAt j (by omega)
    rw [Nat.zero_add]
    refine ⟨?_, by simp [World.frozen?, hg]⟩
    rw [getElem!_pos L.toArray j hj, h3, strs, List.getElem?_map, List.getElem?_eq_getElem hj']
    rfl
theorem wsort {W : World} {base cap : Nat} {y : Option Addr} {D : List Bs} (h : W.ownsRow base 9 1 (.slice y D.length cap) D.length (strs D)) (hD : D.length ≤ 1000) (hb0 : base ≤ W.heap.size) :
    Calls Tryz.prog 16 #[.slice y D.length cap] W fun e w' => e = .returned (.tuple #[]) ∧ Below base W w' ∧ ∀ j, j < D.length → ∃ q, y = some ⟨q, 0, none⟩ ∧ D.length ≤ cap ∧ w'.cell? ⟨q, j, none⟩ = some (.string (tx ((D.mergeSort fun x y => decide (x ≤ y)).getD j []))) := by
  by_cases h0 : D = []
  · subst h0
    refine (Tryz.slices_Sort_string_none y cap W).mono ?_
    rintro e w' ⟨rfl, rfl⟩
    exact ⟨rfl, Below.refl _ _, fun j hj => by simp at hj⟩
  · have hp : 0 < D.length := List.length_pos_iff.2 h0
    have hh := h
    rcases h.2 with ⟨hv, h1⟩ | ⟨g, cap', cur, hv, hge, hg, hnc, _⟩
    · omega
    · obtain ⟨rfl, rfl⟩ : y = some ⟨g, 0, none⟩ ∧ cap = cap' := by simpa using hv
      have hlt : g < W.heap.size := (Array.getElem?_eq_some_iff.1 hg).1
      have hH := holds_of_row hh
      refine (Tryz.slices_Sort_string g 0 cap D W hH hlt (by omega)).mono ?_
      rintro e w' ⟨rfl, n, os, rfl⟩
      refine ⟨rfl, sorted_below (Below.refl _ _) hb0 hge, fun j hj => ⟨g, rfl, hnc, ?_⟩⟩
      exact sorted_cells hH hlt (List.mergeSort_perm D _).length_eq j (by rw [(List.mergeSort_perm D _).length_eq]; exact hj)
theorem setCells_heap {b : Nat} {T : TypeId} {r : Nat × Nat} : ∀ (vs : List Value) (o : Nat) (w : World) (cur : Array Value), w.heap[b]? = some (.cells cur T r) → o + vs.length ≤ cur.size →
    ∃ cur', (w.setCells b o vs).heap[b]? = some (.cells cur' T r) ∧ cur'.size = cur.size ∧ cur'.toList.take (o + vs.length) = cur.toList.take o ++ vs
  | [], o, w, cur, h, _ => ⟨cur, h, rfl, by simp⟩
  | v :: vs, o, w, cur, h, hl => by
    simp only [List.length_cons] at hl
    obtain ⟨cur', h1, h2, h3⟩ := setCells_heap vs (o + 1) (w.setCell ⟨b, o, none⟩ v) (cur.setIfInBounds o v) (set_block h v) (by simp; omega)
    refine ⟨cur', h1, by simpa using h2, ?_⟩
    rw [List.length_cons, show o + (vs.length + 1) = o + 1 + vs.length by omega, h3, Array.toList_setIfInBounds]
    have ho : o < cur.toList.length := by simp; omega
    rw [List.take_succ_eq_append_getElem (by simpa using ho), List.take_set_of_le (by omega), List.getElem_set_self, List.append_assoc]
    rfl
theorem setCells_other {b j : Nat} (h : j ≠ b) : ∀ (vs : List Value) (o : Nat) (w : World), (w.setCells b o vs).heap[j]? = w.heap[j]?
  | [], _, _ => rfl
  | _ :: vs, o, _ => (setCells_other h vs (o + 1) _).trans (set_other h)
theorem below_setCells3 {B b : Nat} {a : World} (hb : B ≤ b) : ∀ (vs : List Value) (o : Nat) {w : World}, Below B a w → Below B a (w.setCells b o vs)
  | [], _, _, h => h
  | v :: vs, o, _, h => below_setCells3 hb vs (o + 1) (h.setCell (p := ⟨b, o, none⟩) hb v)
theorem wrev {w W : World} {m : Int} {D : List Bs} {x : Option Addr} {c : Nat} (h : LdI w W m D x c) (hD : D.length ≤ 1000) :
    Calls Tryz.prog 17 #[.slice x D.length c] W fun e w' => e = .returned (.tuple #[]) ∧ LdI w w' m D.reverse x c := by
  by_cases h0 : D = []
  · subst h0
    refine (Tryz.slices_Reverse_string_empty x c W).mono ?_
    rintro e w' ⟨rfl, rfl⟩
    exact ⟨rfl, h⟩
  · have hp : 0 < D.length := List.length_pos_iff.2 h0
    have hR := row_base h.row
    rcases h.row.2 with ⟨hv, h1⟩ | ⟨g, cap', cur, hv, hge, hg, hnc, hcm, hcs, htk⟩
    · omega
    · obtain ⟨rfl, rfl⟩ : x = some ⟨g, 0, none⟩ ∧ c = cap' := by simpa using hv
      have hlt : g < W.heap.size := (Array.getElem?_eq_some_iff.1 hg).1
      have hH := holds_of_row h.row
      have hc : ∀ i, i < D.length → W.cell? ⟨g, 0 + i, none⟩ = some (.string (tx (D.getD i []))) := fun i hi => by
        rw [(hH i (by simpa using hi)).1, getElem!_pos _ _ (by simpa using hi), List.getD_eq_getElem?_getD, List.getElem?_eq_getElem hi]
        rfl
      refine (Tryz.slices_Reverse_string_cells g 0 D.length c (fun i => tx (D.getD i [])) W (by omega) hc (fun j hj => (hH j (by simpa using hj)).2)).mono ?_
      rintro e w' ⟨rfl, q, rfl⟩
      have hst : (Lib.strsOf (fun i => tx (D.getD i [])) D.length).reverse.map encStr = strs D.reverse := by
        unfold Lib.strsOf strs
        rw [List.map_reverse, List.map_reverse, List.map_map]
        congr 1
        apply List.ext_getElem
        · simp
        · intro i h1 h2
          simp [encStr, tx, List.getElem?_eq_getElem (show i < D.length by simpa using h2)]
      rw [hst]
      have hl2 : (strs D.reverse).length = D.length := by simp [strs]
      have hl3 : D.reverse.length = D.length := by simp
      have hg' : (W.drewN q).heap[g]? = some (.cells cur 9 (0, 0)) := hg
      obtain ⟨cur', e1, e2, e3⟩ := setCells_heap (strs D.reverse) 0 (W.drewN q) cur hg' (by rw [hl2, hcs]; omega)
      refine ⟨rfl, ?_, ?_, ?_⟩
      · rw [setCells_other (by omega), hl3]
        exact h.hd
      · rw [hl3]
        refine ⟨by rw [hl2]; omega, .inr ⟨g, c, cur', rfl, hge, e1, hnc, hcm, by rw [e2, hcs], ?_⟩⟩
        rw [hl2, Nat.zero_add] at e3
        rw [Nat.mul_one, e3]
        simp
      · exact below_setCells3 (by omega) _ _ (below_drewN h.bel q)
end Go.Proofs.YtbaljpamhmbcjaaGreat
