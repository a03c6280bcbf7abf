/- Walks: pair, single. -/
import Derived.Test.YtfalcmbjjlgoaaaGreatDoorQ6
namespace Go.Proofs.YtfalcmbjjlgoaaaGreatDoor
open Go.RowKit Go.Shelf
theorem run_store_float (P : Program) (w : World) (a : Addr) (m : _root_.Go.Mode) (k : FloatKind) (b : Nat) : (store a (.float k b) m).run P w = stored P w a (.float k b) m := run_store P w a _ m rfl
attribute [local go_sem] run_store_float
theorem addr_add (g j : Nat) : (⟨g, 0, none⟩ : Addr).add j = ⟨g, j, none⟩ := by by_cases e : j = 0 <;> simp [Addr.add, e]
theorem node_two {A : Nat → Prop} {w : World} {g : Nat} {a0 a1 a2 a3 b0 b1 b2 b3 : Value} {T : TypeId} {ta tb : Tree} {op : Bs} (hg : A g) (h : w.heap[g]? = some (.cells #[a0, a1, a2, a3, b0, b1, b2, b3] T (0, 0)))
    (ha : NodeV A w (.agg #[a0, a1, a2, a3]) ta) (hb : NodeV A w (.agg #[b0, b1, b2, b3]) tb) : NodeV A w (.agg #[.string (tx op), .float .f64 0, .string ⟨#[]⟩, .slice (some ⟨g, 0, none⟩) 2 2]) (two op ta tb) := by
  refine ⟨_, 2, rfl, Nat.le_refl _, (fun e => by cases e), fun a e => ?_⟩
  cases e
  exact ⟨fun _ => ⟨hg, (Array.getElem?_eq_some_iff.1 h).1⟩, ⟨⟨a0, a1, a2, a3, by simp [addr_add, World.cell?, h], by simp [addr_add, World.cell?, h], by simp [addr_add, World.cell?, h], by simp [addr_add, World.cell?, h], ha⟩, ⟨⟨b0, b1, b2, b3, by simp [addr_add, World.cell?, h], by simp [addr_add, World.cell?, h], by simp [addr_add, World.cell?, h], by simp [addr_add, World.cell?, h], hb⟩, trivial⟩⟩⟩
theorem node_one {A : Nat → Prop} {w : World} {g : Nat} {a0 a1 a2 a3 : Value} {T : TypeId} {ta : Tree} {op : Bs} (hg : A g) (h : w.heap[g]? = some (.cells #[a0, a1, a2, a3] T (0, 0)))
    (ha : NodeV A w (.agg #[a0, a1, a2, a3]) ta) : NodeV A w (.agg #[.string (tx op), .float .f64 0, .string ⟨#[]⟩, .slice (some ⟨g, 0, none⟩) 1 1]) (one op ta) := by
  refine ⟨_, 1, rfl, Nat.le_refl _, (fun e => by cases e), fun a e => ?_⟩
  cases e
  exact ⟨fun _ => ⟨hg, (Array.getElem?_eq_some_iff.1 h).1⟩, ⟨⟨a0, a1, a2, a3, by simp [addr_add, World.cell?, h], by simp [addr_add, World.cell?, h], by simp [addr_add, World.cell?, h], by simp [addr_add, World.cell?, h], ha⟩, trivial⟩⟩
theorem node_res {fn : Func} {p : Tmp} (h : fn.results = #[.cell p 25]) (tmps : Array Value) (w : World) (g : Nat) (v0 v1 v2 v3 : Value) (hp : tmps.getD p undef = .pointer (some ⟨g, 0, none⟩))
    (hg : w.heap[g]? = some (.cells #[v0, v1, v2, v3] 25 (0, 0))) : (results fn tmps).run Tryz.prog w = .ok (.agg #[v0, v1, v2, v3]) w :=
  results_cell h tmps w g 25 _ _ _ hp hg Tryz.underlying25 rfl (by kernel_rfl)
set_option maxHeartbeats 2000000 in
theorem wpair (A : Nat → Prop) (op : Bs) (va vb : Value) (ta tb : Tree) (w : World) (hlo : ∀ b, w.heap.size ≤ b → A b) (ha : NodeV A w va ta) (hb : NodeV A w vb tb) :
    Calls Tryz.prog 58 #[.string (tx op), va, vb] w fun e w' => ∃ v, e = .returned v ∧ NodeV A w' v (two op ta tb) ∧ Below w.heap.size w w' := by
  have HA := Lib.hid ha
  have HB := Lib.hid hb
  have HL := Lib.hid hlo
  obtain ⟨oa, na, sa, la⟩ := ta
  obtain ⟨ob, nb, sb, lb⟩ := tb
  obtain ⟨xa, ca, rfl, _⟩ := ha
  obtain ⟨xb, cb, rfl, _⟩ := hb
  generalize la.length = p at HA ⊢
  generalize lb.length = q at HB ⊢
  clear hlo
  go_enter Tryz.func58, Tryz.ntmps58
  go_wp2
  have hbel : ∀ o1 o2 o3 o4, Below w.heap.size w ((((w.alloc o1).alloc o2).alloc o3).alloc o4) := fun o1 o2 o3 o4 => ((((Below.refl _ _).alloc (Nat.le_refl _) _).alloc (by simp) _).alloc (by simp; omega) _).alloc (by simp; omega) _
  refine bodyPost_ret (node_res rfl _ _ (w.heap.size + 1 + 1) _ _ _ _ rfl ((heap_alloc_old _ _ (by simp)).trans (by simpa using heap_alloc_new ((w.alloc _).alloc _) _))) rfl ?_
  exact ⟨_, rfl, node_two (g := w.heap.size + 1 + 1 + 1) (HL.out _ (by omega)) (by simpa using heap_alloc_new (((w.alloc _).alloc _).alloc _) _) (HA.out.below (hbel _ _ _ _)) (HB.out.below (hbel _ _ _ _)), hbel _ _ _ _⟩
set_option maxHeartbeats 2000000 in
theorem wsingle (A : Nat → Prop) (op : Bs) (va : Value) (ta : Tree) (w : World) (hlo : ∀ b, w.heap.size ≤ b → A b) (ha : NodeV A w va ta) :
    Calls Tryz.prog 95 #[.string (tx op), va] w fun e w' => ∃ v, e = .returned v ∧ NodeV A w' v (one op ta) ∧ Below w.heap.size w w' := by
  have HA := Lib.hid ha
  have HL := Lib.hid hlo
  obtain ⟨oa, na, sa, la⟩ := ta
  obtain ⟨xa, ca, rfl, _⟩ := ha
  generalize la.length = p at HA ⊢
  clear hlo
  go_enter Tryz.func95, Tryz.ntmps95
  go_wp2
  have hbel : ∀ o1 o2 o3, Below w.heap.size w (((w.alloc o1).alloc o2).alloc o3) := fun o1 o2 o3 => (((Below.refl _ _).alloc (Nat.le_refl _) _).alloc (by simp) _).alloc (by simp; omega) _
  refine bodyPost_ret (node_res rfl _ _ (w.heap.size + 1) _ _ _ _ rfl ((heap_alloc_old _ _ (by simp)).trans (by simpa using heap_alloc_new (w.alloc _) _))) rfl ?_
  exact ⟨_, rfl, node_one (g := w.heap.size + 1 + 1) (HL.out _ (by omega)) (by simpa using heap_alloc_new ((w.alloc _).alloc _) _) (HA.out.below (hbel _ _ _)), hbel _ _ _⟩
end Go.Proofs.YtfalcmbjjlgoaaaGreatDoor
