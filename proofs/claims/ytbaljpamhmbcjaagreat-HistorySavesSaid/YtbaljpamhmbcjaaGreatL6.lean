/- What the reference's Load stands on. -/
import Derived.Test.YtbaljpamhmbcjaaGreatL5
namespace Go.Proofs.YtbaljpamhmbcjaaGreat
open Go.RowKit Go.Shelf Go.Lib
theorem set6_heap {W : World} {q : Nat} {v0 v1 v2 v3 v4 v5 : Value} {t : TypeId} (h : W.heap[q]? = some (.cells #[v0, v1, v2, v3, v4, v5] t (0, 0))) (a0 a1 a2 a3 a4 a5 : Value) : ((((((W.setCell ⟨q, 0, none⟩ a0).setCell ⟨q, 1, none⟩ a1).setCell ⟨q, 2, none⟩ a2).setCell ⟨q, 3, none⟩ a3).setCell ⟨q, 4, none⟩ a4).setCell ⟨q, 5, none⟩ a5).heap[q]? = some (.cells #[a0, a1, a2, a3, a4, a5] t (0, 0)) :=
  set_block (set_block (set_block (set_block (set_block (set_block h (o := 0) a0) (o := 1) a1) (o := 2) a2) (o := 3) a3) (o := 4) a4) (o := 5) a5
theorem set6_below {B : Nat} {w W : World} {q : Nat} (h : Below B w W) (hq : B ≤ q) (a0 a1 a2 a3 a4 a5 : Value) : Below B w ((((((W.setCell ⟨q, 0, none⟩ a0).setCell ⟨q, 1, none⟩ a1).setCell ⟨q, 2, none⟩ a2).setCell ⟨q, 3, none⟩ a3).setCell ⟨q, 4, none⟩ a4).setCell ⟨q, 5, none⟩ a5) :=
  (((((h.setCell (p := ⟨q, 0, none⟩) hq _).setCell (p := ⟨q, 1, none⟩) hq _).setCell (p := ⟨q, 2, none⟩) hq _).setCell (p := ⟨q, 3, none⟩) hq _).setCell (p := ⟨q, 4, none⟩) hq _).setCell (p := ⟨q, 5, none⟩) hq _
theorem set6_other {W : World} {q j : Nat} (h : j ≠ q) (a0 a1 a2 a3 a4 a5 : Value) : ((((((W.setCell ⟨q, 0, none⟩ a0).setCell ⟨q, 1, none⟩ a1).setCell ⟨q, 2, none⟩ a2).setCell ⟨q, 3, none⟩ a3).setCell ⟨q, 4, none⟩ a4).setCell ⟨q, 5, none⟩ a5).heap[j]? = W.heap[j]? :=
  (set_other h).trans ((set_other h).trans ((set_other h).trans ((set_other h).trans ((set_other h).trans (set_other h)))))
def zeroC : Array Value := #[.int .i64 0, .slice none 0 0, .bool false, .string ⟨#[]⟩, .string ⟨#[]⟩, .int .i64 0]
theorem placeI_mem (L : List Bs) (s : Bs) : 0 ≤ placeI L s ↔ s ∈ L := by
  unfold placeI
  cases h : placeS L s with
  | none =>
    unfold placeS at h
    rw [List.find?_eq_none] at h
    refine ⟨fun q => by simp at q, fun q => ?_⟩
    exfalso
    obtain ⟨j, hj, e⟩ := List.getElem_of_mem q
    have := h j (List.mem_range.2 hj)
    rw [List.getD_eq_getElem?_getD, List.getElem?_eq_getElem hj] at this
    simp [e] at this
  | some i =>
    unfold placeS at h
    have h1 := List.find?_some h
    have h2 := List.mem_range.1 (List.mem_of_find?_eq_some h)
    refine ⟨fun _ => ?_, fun _ => by simp⟩
    rw [decide_eq_true_eq, List.getD_eq_getElem?_getD, List.getElem?_eq_getElem h2] at h1
    rw [← h1]
    exact List.getElem_mem h2
def okB (s : Bs) (j : Nat) : Bool := decide ((splitL s).2 = []) && ((splitL s).1.take j).all mayS
def twB (L : List Bs) (j : Nat) : Bool := !decide (L.take j).Nodup
theorem takeL_snoc {L : List Bs} {k : Nat} (hk : k < L.length) : L.take (k + 1) = L.take k ++ [L.getD k []] := by
  rw [List.take_succ_eq_append_getElem hk, List.getD_eq_getElem?_getD, List.getElem?_eq_getElem hk]
  rfl
theorem okB_step {s : Bs} {j : Nat} (hj : j < (splitL s).1.length) : okB s (j + 1) = (okB s j && mayS ((splitL s).1.getD j [])) := by
  unfold okB
  rw [takeL_snoc hj, List.all_append, ← Bool.and_assoc]
  simp
theorem twB_step {L : List Bs} {j : Nat} (hj : j < L.length) : twB L (j + 1) = (twB L j || decide (0 ≤ placeI (L.take j) (L.getD j []))) := by
  unfold twB
  rw [takeL_snoc hj]
  by_cases h1 : (L.take j).Nodup
  · by_cases h2 : L.getD j [] ∈ L.take j
    · rw [decide_eq_true h1, decide_eq_true ((placeI_mem _ _).2 h2), decide_eq_false]
      · rfl
      · intro q
        exact (List.nodup_append.1 q).2.2 _ h2 _ (List.mem_singleton.2 rfl) rfl
    · rw [decide_eq_true h1, decide_eq_false (fun q => h2 ((placeI_mem _ _).1 q)), decide_eq_true]
      · rfl
      · refine List.nodup_append.2 ⟨h1, by simp, fun a ha b hb e => ?_⟩
        rw [List.mem_singleton] at hb
        rw [← hb, ← e] at h2
        exact h2 ha
  · rw [decide_eq_false h1, decide_eq_false]
    · rfl
    · exact fun q => h1 (List.nodup_append.1 q).1
/-- The result's box and the reference's history under way. -/
structure Rl (w W : World) (g : Nat) (V : Array Value) : Prop where
  res : W.heap[w.heap.size]? = some (.cells zeroC 28 (0, 0))
  h : W.heap[g]? = some (.cells V 28 (0, 0))
  gg : w.heap.size < g
  bel : Below w.heap.size w W
theorem Rl.below {w W W' : World} {g : Nat} {V : Array Value} (h : Rl w W g V) (hb : Below W.heap.size W W') : Rl w W' g V :=
  ⟨(hb.block _ (Array.getElem?_eq_some_iff.1 h.res).1).trans h.res, (hb.block _ (Array.getElem?_eq_some_iff.1 h.h).1).trans h.h, h.gg, h.bel.trans (below_le hb h.bel.size)⟩
theorem rl_new {w w1 : World} {V : Array Value} (hb : Below (w.alloc (.cells zeroC 28)).heap.size (w.alloc (.cells zeroC 28)) w1) : Rl w (w1.alloc (.cells V 28)) w1.heap.size V := by
  have h1 : w.heap.size < w1.heap.size := by have := hb.size; simp at this; omega
  refine ⟨?_, heap_alloc_new _ _, h1, ?_⟩
  · rw [heap_alloc_old _ _ h1, hb.block _ (by simp)]
    exact heap_alloc_new _ _
  · exact (((Below.refl _ _).alloc (Nat.le_refl _) _).trans (below_le hb (by simp))).alloc (by omega) _
/-- The reference's history while its lines are laid. -/
structure Rl2 (W0 W : World) (g : Nat) (m : Int) (D : List Bs) (x : Option Addr) (c : Nat) : Prop where
  h : W.heap[g]? = some (.cells (hisCells m x D.length c Wk.no) 28 (0, 0))
  row : W.ownsRow W0.heap.size 9 1 (.slice x D.length c) D.length (strs D)
  but : But [g] W0 W
  gB : g < W0.heap.size
theorem Rl2.app {W0 W w2 : World} {g : Nat} {m : Int} {D : List Bs} {x : Option Addr} {c : Nat} {T : ByteArray} {l : Bs} {x' : Option Addr} {c' : Nat} (h : Rl2 W0 W g m D x c) (hT : T = tx l)
    (ho : w2.ownsRow W0.heap.size 9 1 (.slice x' (D.length + 1) c') (D.length + 1) (strs D ++ [.string T])) (hg : (W.drew.alloc (.cells #[.string T] 9)).grownBy w2 (Value.slice x D.length c).ownBlock) :
    w2.cell? ⟨g, 1, none⟩ = some (.slice x D.length c) ∧ w2.frozen? ⟨g, 1, none⟩ = false ∧ Rl2 W0 (w2.setCell ⟨g, 1, none⟩ (.slice x' (D.length + 1) c')) g m (D ++ [l]) x' c' := by
  have hsz := h.but.size
  have hgB := h.gB
  have hb2 : Below W0.heap.size W w2 := ((Below.refl _ _).drew.alloc (by simpa using hsz) _).grown hg (by simp; omega) (fun k hk => (h.row.lt k hk).1)
  have hbb := (hb2.block g hgB).trans h.h
  have hl : (D ++ [l]).length = D.length + 1 := by simp
  refine ⟨by unfold hisCells at hbb; simp [World.cell?, hbb], by simp [World.frozen?, hbb], ?_, ?_, ?_, hgB⟩
  · rw [set_block hbb (o := 1), hl]
    rfl
  · rw [hl, strs_app, show strs [l] = [.string T] by rw [hT]; rfl]
    exact row_kept ho (fun j hj => set_other (by have := (ho.lt j hj).1; omega))
  · exact But.set ⟨hb2.os.trans h.but.os, hb2.tape.trans h.but.tape, hb2.output.trans h.but.output, Nat.le_trans hsz hb2.size, fun j hj hl => (hb2.block j hj).trans (h.but.block j hj hl)⟩ _ _ (by simp)
theorem sees_but {W0 W : World} {g : Nat} {y : Option Addr} {d : Nat} {L : List Bs} {V : Array Value} {v : Int} (h : SeesL W0 y d L) (hg : W0.heap[g]? = some (.cells V 28 (0, 0))) (hV : V[0]? = some (.int .i64 v)) (hb : But [g] W0 W) : SeesL W y d L :=
  ⟨h.1, h.2.1, fun hp => by
    obtain ⟨i, h1, h2, h3⟩ := h.2.2 hp
    have hne : i ≠ g := fun e => by
      have h4 := h3 0 hp
      rw [e] at h4
      simp [World.cell?, hg, hV] at h4
    exact ⟨i, h1, Nat.lt_of_lt_of_le h2 hb.size, fun j hj => (World.cell?_of_block (a := ⟨i, j, none⟩) (hb.block i h2 (by simpa using hne))).trans (h3 j hj)⟩⟩
def RLoadEnd (m : Int) (s : Bs) (w : World) (e : Ending) (w' : World) : Prop := Below w.heap.size w w' ∧ ((loadE m s ≠ 0 ∧ e = .returned (.tuple #[rV 0 none 0 0 Wk.no, .int .i64 (loadE m s)])) ∨ (loadE m s = 0 ∧ ∃ x c, e = .returned (.tuple #[rV m x (splitL s).1.reverse.length c Wk.no, .int .i64 0]) ∧ SeesL w' x c (splitL s).1.reverse))
theorem RLoadEnd.bad {m : Int} {s : Bs} {w w' : World} {k : Int} (h : loadE m s = k) (hk : k ≠ 0) (hb : Below w.heap.size w w') : RLoadEnd m s w (.returned (.tuple #[.agg zeroC, .int .i64 k])) w' := ⟨hb, .inl ⟨by rw [h]; exact hk, by rw [h]; rfl⟩⟩
theorem Rl.res' {w W : World} {g : Nat} {V : Array Value} (h : Rl w W g V) : W.heap[w.heap.size]? = some (.cells #[.int .i64 0, .slice none 0 0, .bool false, .string ⟨#[]⟩, .string ⟨#[]⟩, .int .i64 0] 28 (0, 0)) := h.res
end Go.Proofs.YtbaljpamhmbcjaaGreat
