/- Walk: Save of an unmade history. -/
import Derived.Test.YtbaljpamhmbcjaaHG
namespace Go.Proofs.Ytbaljpamhmbcjaa
open Go.RowKit Go.Shelf
attribute [local go_sem] Oper.semAt_some
def encL (x : Nat × Bs) : Array Value := #[.int .i64 x.1, .string (tx x.2)]
theorem un_stops {B : Nat} {p : Option Addr} {w1 : World} (hB : w1.cell? ⟨B, 0, none⟩ = some (.pointer p)) (hBl : B < w1.heap.size) (h : Unmade p w1) :
    SeqStopsK Fence.wide 5 Try.prog 44 #[.pointer (some ⟨B, 0, none⟩)] encL (fun _ _ => True) (fun xs => xs = []) (fun _ => False) 0 w1 := fun l J Jx W hW _ _ _ h0 => by
  refine (un_in l B p W ((hW.cell (p := ⟨B, 0, none⟩) hBl).trans hB) (h.kept hW) J (fun _ _ => False) h0).mono ?_
  rintro e W' ⟨he, ⟨xs, hx, hJ⟩ | ⟨pre, _, hJ⟩⟩
  · exact ⟨he, .inl ⟨xs, hx, hJ⟩⟩
  · exact hJ.elim
/-- A box, and nothing old turned. -/
structure BI (w : World) (b : Nat) (t : TypeId) (v : Value) (W : World) : Prop where
  bx : Box W b t v
  bel : Below w.heap.size w W
theorem bi_own {α : Type} (w : World) (b : Nat) (t : TypeId) (v : Value) (B : Nat) (hB : w.heap.size ≤ B) : OwnFrom B (fun (_ : List α) W => BI w b t v W) := fun _ _ _ _ h hg hr => by
  have hk := cells_grown hg (fun r e => (hr r e).2)
  exact ⟨(hk.2 _ _ h.bx rfl).trans h.bx, h.bel.grown hg h.bel.size (fun k e => by have := (hr k e).1; omega)⟩
set_option maxRecDepth 100000 in
set_option maxHeartbeats 2000000 in
theorem unSave (p : Option Addr) (w : World) (h : Unmade p w) : Calls Try.prog 9 #[.pointer p] w fun e w' => e = .returned (.string ⟨#[]⟩) ∧ Below w.heap.size w w' := by
  have HU := Lib.hid h
  clear h
  refine (callsIn_wide (n := 6)).1 ?_
  refine callsIn_of_wp_marks Try.func9 rfl trivial ?_ rfl
  simp only [Try.ntmps9, List.size_toArray, List.length_cons, List.length_nil, Nat.reduceAdd, Nat.reduceSub, Array.replicate_succ, Array.replicate_zero, List.push_toArray, List.append_toArray, List.nil_append, List.cons_append]
  gi_wp2_with (first | (refine ⟨trivial, ?_⟩; gi_at_call 30; refine (callsIn_wide.2 (wHAll _ _)).mono ?_; rintro e w1 ⟨rfl, rfl⟩))
  have hb2 : Below w.heap.size w ((w.alloc (.cells #[.string ⟨#[]⟩] 9)).alloc (.cells #[.pointer p] 23)) := ((Below.refl _ _).alloc (Nat.le_refl _) _).alloc (by simp) _
  have HI : Hid (BI w w.heap.size 9 (.string ⟨#[]⟩) ((w.alloc (.cells #[.string ⟨#[]⟩] 9)).alloc (.cells #[.pointer p] 23))) := Lib.hid ⟨(heap_alloc_old _ _ (by simp)).trans (heap_alloc_new _ _), hb2⟩
  have HC : Hid (((w.alloc (.cells #[.string ⟨#[]⟩] 9)).alloc (.cells #[.pointer p] 23)).cell? ⟨w.heap.size + 1, 0, none⟩ = some (.pointer p) ∧ w.heap.size + 1 < ((w.alloc (.cells #[.string ⟨#[]⟩] 9)).alloc (.cells #[.pointer p] 23)).heap.size ∧ Unmade p ((w.alloc (.cells #[.string ⟨#[]⟩] 9)).alloc (.cells #[.pointer p] 23))) := Lib.hid ⟨by simp [go_sem], by simp, HU.out.kept hb2⟩
  clear hb2
  generalize (w.alloc (.cells #[.string ⟨#[]⟩] 9)).alloc (.cells #[.pointer p] 23) = W0 at HI HC ⊢
  refine wpIn_rangeFunc_ownH rfl (by omega) (gf := 44) (lb := #[.pointer (some ⟨w.heap.size + 1, 0, none⟩)]) (by simp [go_sem]) trivial (enters_of Try.func44 (by kernel_rfl) rfl)
    (un_stops HC.out.1 HC.out.2.1 HC.out.2.2) (fun _ _ => trivial) (fun _ _ _ _ _ _ _ _ => trivial) (Below.refl _ _) (fun _ => rfl)
    (fun (_ : List (Nat × Bs)) W => BI w w.heap.size 9 (.string ⟨#[]⟩) W)
    (fun _ _ _ => False)
    (bi_own w _ _ _ _ HI.out.bel.size)
    (fun _ _ _ _ _ hs _ _ => hs)
    HI.out
    (fun _ _ _ => True)
    (fun _ _ _ _ _ _ h _ _ => h) ?assign ?body ?done ?stop
  case assign =>
    intro l pre x W K hI hK
    unfold encL
    have H := Lib.hid hK
    clear hK
    gi_wp2
    exact H.out _ _ (keepsFrom_below (Below.refl _ _)) trivial hI trivial
  case body =>
    rintro l pre x a' W _ _ _ _ hlt
    exact absurd hlt (by omega)
  case done =>
    rintro D xs W hD _ hI hK
    have c3 := hI.bx.cell
    have HB := Lib.hid hI.bel
    have HK := Lib.hid hK
    have HD := Lib.hid (show w.heap.size ≤ D by have := HI.out.bel.size; omega)
    clear hI hK
    gi_wp2
    refine ⟨by simp, .inl ⟨_, _, rfl, run_takeDeferred HK.out, ?_⟩⟩
    exact ⟨_, results_tmp rfl _ _ _, rfl, HB.out.trans (belowK_b (w := w) (Nat.le_refl _) W D _ _ HD.out HK.out rfl rfl)⟩
  case stop =>
    rintro D c pre W _ _ h _
    exact h.elim
end Go.Proofs.Ytbaljpamhmbcjaa
