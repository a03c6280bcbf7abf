/- Walk: told, of an unmade history. -/
import Derived.Test.YtbaljpamhmbcjaaHI
namespace Go.Proofs.Ytbaljpamhmbcjaa
open Go.RowKit Go.Shelf
attribute [local go_sem] Oper.semAt_some
theorem run_equalIn_func_nil (w : World) (d : Nat) (f : Fn) (a b : Array Value) : (Op.equalIn (d + 1) 68 (.func f a b) .nilFunc).run Try.prog w = .ok false w := by
  simp [Op.equalIn, run_underlying Try.underlying68]
theorem run_eql_func_nil (w : World) (f : Fn) (a b : Array Value) : (binOp .eql 68 (.func f a b) .nilFunc).run Try.prog w = .ok (.bool false) w := by
  simp only [binOp]
  simp [Op.equal, Op.maxDepth, run_equalIn_func_nil w 9999 f a b]
/-- The boxes of told. -/
structure TO (w : World) (W : World) : Prop where
  b7 : Box W (w.heap.size + 2) 22 (.slice none 0 0)
  b8 : Box W (w.heap.size + 3) 4 (.bool true)
  bel : Below w.heap.size w W
theorem to_own {α : Type} (w : World) (B : Nat) (hB : w.heap.size ≤ B) : OwnFrom B (fun (_ : List α) W => TO w W) := fun _ _ _ _ h hg hr => by
  have hk := cells_grown hg (fun r e => (hr r e).2)
  exact ⟨(hk.2 _ _ h.b7 rfl).trans h.b7, (hk.2 _ _ h.b8 rfl).trans h.b8, h.bel.grown hg h.bel.size (fun k e => by have := (hr k e).1; omega)⟩
set_option maxRecDepth 100000 in
set_option maxHeartbeats 2000000 in
theorem unTold (p : Option Addr) (n : Int) (w : World) (h : Unmade p w) : Calls Try.prog 11 #[.pointer p, .int .i64 n] w fun e w' => e = .returned (.tuple #[.slice none 0 0, .bool true]) ∧ Below w.heap.size w w' := by
  have hfn := run_eql_func_nil
  have HU := Lib.hid h
  clear h
  refine (callsIn_wide (n := 6)).1 ?_
  refine callsIn_of_wp_marks Try.func11 rfl trivial ?_ rfl
  simp only [Try.ntmps11, List.size_toArray, List.length_cons, List.length_nil, Nat.reduceAdd, Nat.reduceSub, Array.replicate_succ, Array.replicate_zero, List.push_toArray, List.append_toArray, List.nil_append, List.cons_append]
  gi_wp2_with (first | (refine ⟨trivial, ?_⟩; gi_at_call 30; refine (callsIn_wide.2 (wHAll _ _)).mono ?_; rintro e w1 ⟨rfl, rfl⟩))
  clear hfn
  have hb2 : Below w.heap.size w ((((w.alloc (.cells #[.int .i64 n] 3)).alloc (.cells #[.pointer p] 23)).alloc (.cells #[.slice none 0 0] 22)).alloc (.cells #[.bool true] 4)) := ((((Below.refl _ _).alloc (Nat.le_refl _) _).alloc (by simp) _).alloc (by simp; omega) _).alloc (by simp; omega) _
  have h7 : Box (((w.alloc (.cells #[.int .i64 n] 3)).alloc (.cells #[.pointer p] 23)).alloc (.cells #[.slice none 0 0] 22)) (w.heap.size + 2) 22 (.slice none 0 0) := by
    have := heap_alloc_new ((w.alloc (.cells #[.int .i64 n] 3)).alloc (.cells #[.pointer p] 23)) (.cells #[.slice none 0 0] 22)
    unfold Box
    simpa only [World.size_alloc, Nat.add_assoc] using this
  have h8 : Box ((((w.alloc (.cells #[.int .i64 n] 3)).alloc (.cells #[.pointer p] 23)).alloc (.cells #[.slice none 0 0] 22)).alloc (.cells #[.bool true] 4)) (w.heap.size + 3) 4 (.bool true) := by
    have := heap_alloc_new (((w.alloc (.cells #[.int .i64 n] 3)).alloc (.cells #[.pointer p] 23)).alloc (.cells #[.slice none 0 0] 22)) (.cells #[.bool true] 4)
    unfold Box
    simpa only [World.size_alloc, Nat.add_assoc] using this
  have HI : Hid (TO w ((((w.alloc (.cells #[.int .i64 n] 3)).alloc (.cells #[.pointer p] 23)).alloc (.cells #[.slice none 0 0] 22)).alloc (.cells #[.bool true] 4))) := Lib.hid ⟨(heap_alloc_old _ _ (by simp)).trans h7, h8, hb2⟩
  have HC : Hid (((((w.alloc (.cells #[.int .i64 n] 3)).alloc (.cells #[.pointer p] 23)).alloc (.cells #[.slice none 0 0] 22)).alloc (.cells #[.bool true] 4)).cell? ⟨w.heap.size + 1, 0, none⟩ = some (.pointer p) ∧ w.heap.size + 3 < ((((w.alloc (.cells #[.int .i64 n] 3)).alloc (.cells #[.pointer p] 23)).alloc (.cells #[.slice none 0 0] 22)).alloc (.cells #[.bool true] 4)).heap.size ∧ Unmade p ((((w.alloc (.cells #[.int .i64 n] 3)).alloc (.cells #[.pointer p] 23)).alloc (.cells #[.slice none 0 0] 22)).alloc (.cells #[.bool true] 4))) := Lib.hid ⟨by simp [go_sem], by simp, HU.out.kept hb2⟩
  clear hb2 h7 h8
  generalize (((w.alloc (.cells #[.int .i64 n] 3)).alloc (.cells #[.pointer p] 23)).alloc (.cells #[.slice none 0 0] 22)).alloc (.cells #[.bool true] 4) = W0 at HI HC ⊢
  refine wpIn_rangeFunc_ownH rfl (by omega) (gf := 44) (lb := #[.pointer (some ⟨w.heap.size + 1, 0, none⟩)]) (by simp [go_sem]) trivial (enters_of Try.func44 (by kernel_rfl) rfl)
    (un_stops HC.out.1 (by have := HC.out.2.1; omega) HC.out.2.2) (fun _ _ => trivial) (fun _ _ _ _ _ _ _ _ => trivial) (Below.refl _ _) (fun _ => rfl)
    (fun (_ : List (Nat × Bs)) W => TO w W)
    (fun _ _ _ => False)
    (to_own w _ HI.out.bel.size)
    (fun _ _ _ _ _ hs _ _ => hs)
    HI.out
    (fun _ _ _ => True)
    (fun _ _ _ _ _ _ h _ _ => h) ?assign ?body ?done ?stop
  case assign =>
    intro l pre x W K hI hK
    unfold encL
    have H := Lib.hid hK
    clear hK
    gi_wp2
    exact H.out _ _ (keepsFrom_below (Below.refl _ _)) trivial hI trivial
  case body =>
    rintro l pre x a' W _ _ _ _ hlt
    exact absurd hlt (by omega)
  case done =>
    rintro D xs W hD _ hI hK
    have c7 := hI.b7.cell
    have c8 := hI.b8.cell
    have HB := Lib.hid hI.bel
    have HD := Lib.hid (show w.heap.size ≤ D by have := HC.out.2.1; omega)
    have HK := Lib.hid (show W.drew.heap[D]? = some (.deferred (some [])) from hK)
    clear hI hK hD
    gi_wp2
    gi_region
    gi_wp2
    refine ⟨by simp, .inl ⟨_, _, rfl, run_takeDeferred HK.out, ?_⟩⟩
    exact ⟨_, results_tmp2 rfl _ _ _, rfl, HB.out.drew.trans (belowK_b (w := w) (Nat.le_refl _) _ D _ _ HD.out HK.out rfl rfl)⟩
  case stop =>
    rintro D c pre W _ _ h _
    exact h.elim
end Go.Proofs.Ytbaljpamhmbcjaa
