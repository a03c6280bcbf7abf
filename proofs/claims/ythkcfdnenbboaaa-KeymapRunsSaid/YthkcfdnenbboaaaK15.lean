/- Bindings in memory: a map from names to acts, as a function. -/
import Derived.Test.YthkcfdnenbboaaaK14
import Derived.Maps.OwnOps
import Derived.Maps.OwnSet
import Derived.Maps.Views
import Derived.Maps.AppendAt
import Derived.OwnWalk
import Derived.ShutString
import Derived.RegionTactic
import Derived.WalkSpells
namespace Go.Proofs.Ythkcfdnenbboaaa
open Go.RowKit Go.Shelf Go.Maps Go.ChangeMaps Go.WideElems Go.WideMaps Go.WideShapes
theorem Try.law9 : Keyed Try.prog 9 := string_keyed Try.underlying9
def keyL (s : ByteArray) : Lit := .string s.data.toList
theorem keyL_inj {s t : ByteArray} (h : keyL s = keyL t) : s = t := by
  unfold keyL at h
  injection h with h
  apply ByteArray.ext
  exact Array.toList_inj.1 h
theorem keyL_key (s : ByteArray) : WideAt.IsKeyLit (keyL s) := by unfold keyL; trivial
theorem keyL_of {s : ByteArray} (h : s.size ≤ maxLen) : keyOf Try.prog 9 (.string s) = some (keyL s) := keyOf_string_mk Try.underlying9 h
theorem zero30 (w : World) : (zeroValue 30).run Try.prog w = .ok (.int .i64 0) w := by kernel_rfl
def actD (a : Int) : DataW Unit := .lit (.int .i64 a)
theorem act_wf {a : Int} (h : 0 ≤ a ∧ a ≤ 100) : (Lit.int .i64 a).wf = true := WalkArith.wf_i64 (by omega)
theorem actE_mk {a : Int} (h : 0 ≤ a ∧ a ≤ 100) : (plainElem (H := Unit) Try.prog 30) (.int .i64 a) = some (actD a, []) := plainElem_int Try.underlying30 (act_wf h)
theorem actE_inv {v : Value} {a : Int} {ps : List MemPlace} (h : (plainElem (H := Unit) Try.prog 30) v = some (actD a, ps)) : v = .int .i64 a := by
  obtain ⟨b, rfl, hb, _⟩ := plainElem_int_inv Try.underlying30 h
  simp only [Prod.mk.injEq, actD, DataW.lit.injEq, Lit.int.injEq, true_and] at hb
  rw [hb.1]
/-- What names are bound to. -/
abbrev Bnd := ByteArray → Option Int
def Bnd.put (f : Bnd) (s : ByteArray) (a : Int) : Bnd := fun t => if t = s then some a else f t
def Bnd.del (f : Bnd) (s : ByteArray) : Bnd := fun t => if t = s then none else f t
def Bnd.has (f : Bnd) (s : ByteArray) : Bool := (f s).isSome
def Bnd.act (f : Bnd) (s : ByteArray) : Int := (f s).getD 0
/-- Block mb is a map that binds so, of c names. -/
def MapF (w : World) (mb m c : Nat) (f : Bnd) : Prop :=
  ∃ (D : DataW Unit) (n : Nat), n ≤ m ∧ w.ownsMap Try.prog 9 (plainElem (H := Unit) Try.prog 30) mb n D ∧ size D = c ∧ (∀ s, has D (keyL s) = f.has s) ∧ ∀ s a, f s = some a → (0 ≤ a ∧ a ≤ 100) ∧ ∀ z, D.atKey (keyL s) z = actD a
theorem MapF.zero {w : World} {mb m c : Nat} {f : Bnd} (h : MapF w mb m c f) : ∃ (D : DataW Unit) (n : Nat), n ≤ m ∧ w.ownsMap Try.prog 9 (plainElem (H := Unit) Try.prog 30) mb n D ∧ size D = c ∧ (∀ s, has D (keyL s) = f.has s) ∧ ∀ s, D.atKey (keyL s) (actD 0) = actD (f.act s) := by
  obtain ⟨D, n, h1, h2, h3, h4, h5⟩ := h
  refine ⟨D, n, h1, h2, h3, h4, fun s => ?_⟩
  cases q : f s with
  | none => rw [atKey_of_not_has (by rw [h4]; simp [Bnd.has, q])]; simp [Bnd.act, q]
  | some a => rw [(h5 s a q).2]; simp [Bnd.act, q]
theorem MapF.look {w : World} {mb m c : Nat} {f : Bnd} (h : MapF w mb m c f) (s : ByteArray) (hs : s.size ≤ maxLen) : (Instr.lookup 66 (.map (some mb)) (.string s) false).run Try.prog w = .ok (.int .i64 (f.act s)) w := by
  obtain ⟨D, n, h1, h2, h3, h4, h5⟩ := h.zero
  obtain ⟨v, ps, hrun, hv⟩ := h2.lookup Try.law9 Try.underlying66 (zero30 w) (actE_mk (a := 0) (by omega)) (keyL_of hs)
  rw [h5] at hv
  rw [hrun, actE_inv hv]
theorem MapF.look_ok {w : World} {mb m c : Nat} {f : Bnd} (h : MapF w mb m c f) (s : ByteArray) (hs : s.size ≤ maxLen) : (Instr.lookup 66 (.map (some mb)) (.string s) true).run Try.prog w = .ok (.tuple #[.int .i64 (f.act s), .bool (f.has s)]) w := by
  obtain ⟨D, n, h1, h2, h3, h4, h5⟩ := h.zero
  obtain ⟨v, ps, hrun, hv⟩ := h2.look_ok Try.law9 Try.underlying66 (zero30 w) (actE_mk (a := 0) (by omega)) (keyL_of hs)
  rw [h5] at hv
  rw [hrun, actE_inv hv, h4]
theorem MapF.len {w : World} {mb m c : Nat} {f : Bnd} (h : MapF w mb m c f) (ty : TypeId) : (Builtin.len_ #[66] ty #[.map (some mb)]).run Try.prog w = .ok (.int .i64 c) w := by
  obtain ⟨D, n, h1, h2, h3, h4, h5⟩ := h
  rw [h2.len Try.underlying66, h3]
theorem MapF.le {w : World} {mb m c : Nat} {f : Bnd} (h : MapF w mb m c f) : c ≤ m := by
  obtain ⟨D, n, h1, h2, h3, h4, h5⟩ := h
  have := h2.size_le
  omega
theorem MapF.lt {w : World} {mb m c : Nat} {f : Bnd} (h : MapF w mb m c f) : mb < w.heap.size := by
  obtain ⟨D, n, h1, h2, h3, h4, h5⟩ := h
  exact h2.lt
theorem MapF.kind {w : World} {mb m c : Nat} {f : Bnd} (h : MapF w mb m c f) : ∃ es clock, w.heap[mb]? = some (.map es clock) := by
  obtain ⟨D, n, h1, ⟨es, clock, hb, r⟩, h3⟩ := h
  exact ⟨es, clock, hb⟩
theorem MapF.block {w w' : World} {mb m c : Nat} {f : Bnd} (h : MapF w mb m c f) (he : w'.heap[mb]? = w.heap[mb]?) : MapF w' mb m c f := by
  obtain ⟨D, n, h1, ⟨es, clock, hb, r⟩, h3⟩ := h
  exact ⟨D, n, h1, ⟨es, clock, he.trans hb, r⟩, h3⟩
theorem MapF.mono {w : World} {mb m m' c : Nat} {f : Bnd} (h : MapF w mb m c f) (hm : m ≤ m') : MapF w mb m' c f := by
  obtain ⟨D, n, h1, h2⟩ := h
  exact ⟨D, n, by omega, h2⟩
theorem MapF.made (w : World) : MapF (w.alloc (.map #[] 0)) w.heap.size 0 0 (fun _ => none) :=
  ⟨.map [], 0, Nat.le_refl _, World.ownsMap_made _ _ _ _, rfl, fun s => rfl, fun s a h => by cases h⟩
theorem MapF.put {w : World} {mb m c : Nat} {f : Bnd} (h : MapF w mb m c f) (hm : m < maxLen) (s : ByteArray) (hs : s.size ≤ maxLen) (a : Int) (ha : 0 ≤ a ∧ a ≤ 100) :
    ∃ w', (Instr.mapUpdate 66 (.map (some mb)) (.string s) (.int .i64 a)).run Try.prog w = .ok () w' ∧ MapF w' mb (m + 1) (if f.has s then c else c + 1) (f.put s a) ∧ w.grownBy w' (some mb) := by
  obtain ⟨D, n, h1, h2, h3, h4, h5⟩ := h
  obtain ⟨w', hrun, r1, r2⟩ := h2.update Try.law9 Try.underlying66 (by omega) (keyL_of hs) (actE_mk ha)
  refine ⟨w', hrun, ⟨_, n + 1, by omega, r1, ?_, fun t => ?_, fun t b hb => ?_⟩, r2⟩
  · rw [size_put (h2.tidy Try.law9), h4, h3]
  · by_cases e : t = s
    · subst e
      rw [has_put_same h2.isMap (keyL_key t)]; simp [Bnd.has, Bnd.put]
    · have hne : keyL t ≠ keyL s := fun q => e (keyL_inj q)
      rw [has_put_other hne, h4]; simp [Bnd.has, Bnd.put, e]
  · by_cases e : t = s
    · subst e
      simp only [Bnd.put, if_true, Option.some.injEq] at hb
      subst hb
      exact ⟨ha, fun z => atKey_put_same h2.isMap (keyL_key t) _ _⟩
    · have hne : keyL t ≠ keyL s := fun q => e (keyL_inj q)
      simp only [Bnd.put, e, if_false] at hb
      exact ⟨(h5 t b hb).1, fun z => by rw [atKey_put_other hne]; exact (h5 t b hb).2 z⟩
theorem MapF.drop {w : World} {mb m c : Nat} {f : Bnd} (h : MapF w mb m c f) (s : ByteArray) (hs : s.size ≤ maxLen) (ty : TypeId) :
    ∃ w', (Builtin.delete_ #[66, 9] ty #[.map (some mb), .string s]).run Try.prog w = .ok (.tuple #[]) w' ∧ MapF w' mb m (if f.has s then c - 1 else c) (f.del s) ∧ w.grownBy w' (some mb) := by
  obtain ⟨D, n, h1, h2, h3, h4, h5⟩ := h
  obtain ⟨w', hrun, r1, r2⟩ := h2.drop Try.law9 Try.underlying66 (keyL_of hs) ty
  refine ⟨w', hrun, ⟨_, n, by omega, r1, ?_, fun t => ?_, fun t b hb => ?_⟩, r2.grown⟩
  · have := size_del (k := keyL s) (h2.tidy Try.law9)
    rw [h4, h3] at this
    split at this
    · rename_i q; rw [if_pos q]; omega
    · rename_i q; rw [if_neg q]; omega
  · by_cases e : t = s
    · subst e
      rw [has_del_same]; simp [Bnd.has, Bnd.del]
    · have hne : keyL t ≠ keyL s := fun q => e (keyL_inj q)
      rw [has_del_other hne, h4]; simp [Bnd.has, Bnd.del, e]
  · by_cases e : t = s
    · subst e
      simp [Bnd.del] at hb
    · have hne : keyL t ≠ keyL s := fun q => e (keyL_inj q)
      simp only [Bnd.del, e, if_false] at hb
      exact ⟨(h5 t b hb).1, fun z => by rw [atKey_del_other hne]; exact (h5 t b hb).2 z⟩
/-- A map of New's: block b leads to block mb. -/
structure MapI (w : World) (b mb m c : Nat) (f : Bnd) : Prop where
  cells : w.heap[b]? = some (.cells #[.map (some mb)] 68 (0, 0))
  map : MapF w mb m c f
theorem MapI.get {w : World} {b mb m c : Nat} {f : Bnd} (h : MapI w b mb m c f) : w.cell? ⟨b, 0, none⟩ = some (.map (some mb)) ∧ b < w.heap.size ∧ mb < w.heap.size ∧ b ≠ mb := by
  refine ⟨by simp [World.cell?, h.cells], (Array.getElem?_eq_some_iff.1 h.cells).1, h.map.lt, fun e => ?_⟩
  obtain ⟨es, clock, hm⟩ := h.map.kind
  rw [← e, h.cells] at hm
  cases hm
theorem MapI.keep {w w' : World} {b mb m c : Nat} {f : Bnd} (h : MapI w b mb m c f) {l : List Nat} (hB : But l w w') (hb : b ∉ l) (hm : mb ∉ l) : MapI w' b mb m c f :=
  ⟨hB.heap h.cells hb, h.map.block (hB.block mb h.map.lt hm)⟩
theorem MapI.below {w w' : World} {b mb m c : Nat} {f : Bnd} (h : MapI w b mb m c f) (hB : Below w.heap.size w w') : MapI w' b mb m c f :=
  h.keep (But.of (l := []) hB) List.not_mem_nil List.not_mem_nil
/-- A world in which the map alone has turned. -/
theorem MapI.turned {w w' : World} {b mb m c m' c' : Nat} {f f' : Bnd} (h : MapI w b mb m c f) (hM : MapF w' mb m' c' f') (hg : w.grownBy w' (some mb)) : MapI w' b mb m' c' f' ∧ But [mb] w w' := by
  have hB : But [mb] w w' := (But.refl _ _).grown hg (fun j e => by simp at e; simp [e])
  exact ⟨⟨hB.heap h.cells (by simp; exact h.get.2.2.2), hM⟩, hB⟩
end Go.Proofs.Ythkcfdnenbboaaa
