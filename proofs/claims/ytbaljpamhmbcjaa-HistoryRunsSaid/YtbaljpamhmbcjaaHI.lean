/- Walk: Find of an unmade history. -/
import Derived.Test.YtbaljpamhmbcjaaHH
namespace Go.Proofs.Ytbaljpamhmbcjaa
open Go.RowKit Go.Shelf
attribute [local go_sem] Oper.semAt_some
theorem results_11 {P : Program} {fn : Func} {p q : Tmp} {t u : TypeId} (h : fn.results = #[.cell p t, .cell q u]) (tmps : Array Value) (w : World) (g k : Nat) (v x : Value) (ha : ∀ w, (isAgg t).run P w = .ok false w) (hb : ∀ w, (isAgg u).run P w = .ok false w)
    (hp : tmps.getD p undef = .pointer (some ⟨g, 0, none⟩)) (hq : tmps.getD q undef = .pointer (some ⟨k, 0, none⟩)) (hv : w.cell? ⟨g, 0, none⟩ = some v) (hx : w.cell? ⟨k, 0, none⟩ = some x) :
    (results fn tmps).run P w = .ok (.tuple #[v, x]) w := by
  have hp' : tmps[p]?.getD undef = .pointer (some ⟨g, 0, none⟩) := by simpa using hp
  have hq' : tmps[q]?.getD undef = .pointer (some ⟨k, 0, none⟩) := by simpa using hq
  simp [results, h, hp', hq', asAddr, go_sem, loadVar, hv, hx, ha, hb]
/-- The two result boxes. -/
structure FI (w : World) (W : World) : Prop where
  b6 : Box W (w.heap.size + 2) 3 (.int .i64 0)
  b7 : Box W (w.heap.size + 3) 4 (.bool false)
  bel : Below w.heap.size w W
theorem fi_own {α : Type} (w : World) (B : Nat) (hB : w.heap.size ≤ B) : OwnFrom B (fun (_ : List α) W => FI w W) := fun _ _ _ _ h hg hr => by
  have hk := cells_grown hg (fun r e => (hr r e).2)
  exact ⟨(hk.2 _ _ h.b6 rfl).trans h.b6, (hk.2 _ _ h.b7 rfl).trans h.b7, h.bel.grown hg h.bel.size (fun k e => by have := (hr k e).1; omega)⟩
theorem FI.set {w W : World} (h : FI w W) : FI w ((W.setCell ⟨w.heap.size + 2, 0, none⟩ (.int .i64 0)).setCell ⟨w.heap.size + 3, 0, none⟩ (.bool false)) :=
  ⟨(set_other (by omega)).trans (h.b6.set _), Box.set ((set_other (by omega)).trans h.b7) _, (h.bel.setCell (p := ⟨w.heap.size + 2, 0, none⟩) (show w.heap.size ≤ w.heap.size + 2 by omega) _).setCell (p := ⟨w.heap.size + 3, 0, none⟩) (show w.heap.size ≤ w.heap.size + 3 by omega) _⟩
set_option maxRecDepth 100000 in
set_option maxHeartbeats 2000000 in
theorem unFind (p : Option Addr) (s : ByteArray) (n : Int) (w : World) (h : Unmade p w) : Calls Try.prog 23 #[.pointer p, .string s, .int .i64 n] w fun e w' => e = .returned (.tuple #[.int .i64 0, .bool false]) ∧ Below w.heap.size w w' := by
  have HU := Lib.hid h
  clear h
  refine (callsIn_wide (n := 6)).1 ?_
  refine callsIn_of_wp_marks Try.func23 rfl trivial ?_ rfl
  simp only [Try.ntmps23, List.size_toArray, List.length_cons, List.length_nil, Nat.reduceAdd, Nat.reduceSub, Array.replicate_succ, Array.replicate_zero, List.push_toArray, List.append_toArray, List.nil_append, List.cons_append]
  gi_wp2_with (first | (refine ⟨trivial, ?_⟩; gi_at_call 30; refine (callsIn_wide.2 (wHAll _ _)).mono ?_; rintro e w1 ⟨rfl, rfl⟩))
  have hb2 : Below w.heap.size w (((((w.alloc (.cells #[.string s] 9)).alloc (.cells #[.int .i64 n] 3)).alloc (.cells #[.int .i64 0] 3)).alloc (.cells #[.bool false] 4)).alloc (.cells #[.pointer p] 23)) := (((((Below.refl _ _).alloc (Nat.le_refl _) _).alloc (by simp) _).alloc (by simp; omega) _).alloc (by simp; omega) _).alloc (by simp; omega) _
  have h6 : Box ((((w.alloc (.cells #[.string s] 9)).alloc (.cells #[.int .i64 n] 3)).alloc (.cells #[.int .i64 0] 3)).alloc (.cells #[.bool false] 4)) (w.heap.size + 2) 3 (.int .i64 0) := by
    refine (heap_alloc_old _ _ (by simp)).trans ?_
    have := heap_alloc_new ((w.alloc (.cells #[.string s] 9)).alloc (.cells #[.int .i64 n] 3)) (.cells #[.int .i64 0] 3)
    simpa only [World.size_alloc, Nat.add_assoc] using this
  have h7 : Box ((((w.alloc (.cells #[.string s] 9)).alloc (.cells #[.int .i64 n] 3)).alloc (.cells #[.int .i64 0] 3)).alloc (.cells #[.bool false] 4)) (w.heap.size + 3) 4 (.bool false) := by
    have := heap_alloc_new (((w.alloc (.cells #[.string s] 9)).alloc (.cells #[.int .i64 n] 3)).alloc (.cells #[.int .i64 0] 3)) (.cells #[.bool false] 4)
    unfold Box
    simpa only [World.size_alloc, Nat.add_assoc] using this
  have HI : Hid (FI w (((((w.alloc (.cells #[.string s] 9)).alloc (.cells #[.int .i64 n] 3)).alloc (.cells #[.int .i64 0] 3)).alloc (.cells #[.bool false] 4)).alloc (.cells #[.pointer p] 23))) := Lib.hid ⟨(heap_alloc_old _ _ (by simp)).trans h6, (heap_alloc_old _ _ (by simp)).trans h7, hb2⟩
  have HC : Hid ((((((w.alloc (.cells #[.string s] 9)).alloc (.cells #[.int .i64 n] 3)).alloc (.cells #[.int .i64 0] 3)).alloc (.cells #[.bool false] 4)).alloc (.cells #[.pointer p] 23)).cell? ⟨w.heap.size + 1 + 1 + 1 + 1, 0, none⟩ = some (.pointer p) ∧ w.heap.size + 1 + 1 + 1 + 1 < (((((w.alloc (.cells #[.string s] 9)).alloc (.cells #[.int .i64 n] 3)).alloc (.cells #[.int .i64 0] 3)).alloc (.cells #[.bool false] 4)).alloc (.cells #[.pointer p] 23)).heap.size ∧ Unmade p (((((w.alloc (.cells #[.string s] 9)).alloc (.cells #[.int .i64 n] 3)).alloc (.cells #[.int .i64 0] 3)).alloc (.cells #[.bool false] 4)).alloc (.cells #[.pointer p] 23))) := Lib.hid ⟨by simp [go_sem], by simp, HU.out.kept hb2⟩
  clear hb2 h6 h7
  generalize ((((w.alloc (.cells #[.string s] 9)).alloc (.cells #[.int .i64 n] 3)).alloc (.cells #[.int .i64 0] 3)).alloc (.cells #[.bool false] 4)).alloc (.cells #[.pointer p] 23) = W0 at HI HC ⊢
  refine wpIn_rangeFunc_ownH rfl (by omega) (gf := 44) (lb := #[.pointer (some ⟨w.heap.size + 1 + 1 + 1 + 1, 0, none⟩)]) (by simp [go_sem]) trivial (enters_of Try.func44 (by kernel_rfl) rfl)
    (un_stops HC.out.1 HC.out.2.1 HC.out.2.2) (fun _ _ => trivial) (fun _ _ _ _ _ _ _ _ => trivial) (Below.refl _ _) (fun _ => rfl)
    (fun (_ : List (Nat × Bs)) W => FI w W)
    (fun _ _ _ => False)
    (fi_own w _ HI.out.bel.size)
    (fun _ _ _ _ _ hs _ _ => hs)
    HI.out
    (fun _ _ _ => True)
    (fun _ _ _ _ _ _ h _ _ => h) ?assign ?body ?done ?stop
  case assign =>
    intro l pre x W K hI hK
    unfold encL
    have H := Lib.hid hK
    clear hK
    gi_wp2
    exact H.out _ _ (keepsFrom_below (Below.refl _ _)) trivial hI trivial
  case body =>
    rintro l pre x a' W _ _ _ _ hlt
    exact absurd hlt (by omega)
  case done =>
    rintro D xs W hD _ hI hK
    have c6 := hI.b6.cell
    have c7 := hI.b7.cell
    have f6 := hI.b6.frozen
    have f7 := hI.b7.frozen
    have HD := Lib.hid (show w.heap.size + 4 < D by have := HC.out.2.1; omega)
    have HS := Lib.hid hI.set
    have HK : Hid (((W.setCell ⟨w.heap.size + 2, 0, none⟩ (.int .i64 0)).setCell ⟨w.heap.size + 3, 0, none⟩ (.bool false)).heap[D]? = some (.deferred (some []))) := Lib.hid (((set_other (by have := HD.out; omega)).trans (set_other (by have := HD.out; omega))).trans hK)
    clear hI hK hD
    gi_wp2
    refine ⟨by simp, .inl ⟨_, _, rfl, run_takeDeferred HK.out, ?_⟩⟩
    exact ⟨_, results_11 rfl _ _ (w.heap.size + 2) (w.heap.size + 3) _ _ Try.isAgg3 Try.isAgg4 rfl rfl (Box.cell ((World.putObj_heap_other (by have := HD.out; omega)).trans HS.out.b6)) (Box.cell ((World.putObj_heap_other (by have := HD.out; omega)).trans HS.out.b7)), rfl, HS.out.bel.trans (belowK_b (w := w) (Nat.le_refl _) _ D _ _ (by have := HD.out; omega) HK.out rfl rfl)⟩
  case stop =>
    rintro D c pre W _ _ h _
    exact h.elim
end Go.Proofs.Ytbaljpamhmbcjaa
