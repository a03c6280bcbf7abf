/- Own lemmas that name no function of the program: worlds that have turned in some blocks alone, struct results, rows. -/
import Derived.WalkKit
import Derived.Deep.QuietTactic
import Derived.BigQuiet
import Derived.Lib.Hide
import Derived.WalkSmall
import Derived.Laws.Rows
import Derived.Outline
import Derived.Deep.CutBlock
import Derived.Deep.RegionHeld3
import Derived.Deep.Cut
import Derived.Deep.CutRange
import Derived.Deep.DeepCutAuto
import Derived.WalkSpells
import Derived.Maps.AppendAt
import Derived.Test.YtdomglkcfecnnaaGreatShelf
namespace Go.Proofs.YtdomglkcfecnnaaGreat
open Go.RowKit
theorem ret_int {k : IntKind} {a b : Int} (h : a = b) : Ending.returned (.int k a) = .returned (.int k b) := by rw [h]
theorem ret_bool {a b : Bool} (h : a = b) : Ending.returned (.bool a) = .returned (.bool b) := by rw [h]
theorem ret_str {a b : ByteArray} (h : a = b) : Ending.returned (.string a) = .returned (.string b) := by rw [h]
theorem below_le {m n : Nat} {w w' : World} (h : Below n w w') (hm : m ≤ n) : Below m w w' := ⟨h.os, h.tape, h.output, h.size, fun j hj => h.block j (by omega)⟩
theorem beq_bytes (a b : ByteArray) : (a.toList == b.toList) = decide (a = b) := by
  rw [Bool.eq_iff_iff, ByteArray.toList_eq, ByteArray.toList_eq]
  obtain ⟨⟨x⟩⟩ := a
  obtain ⟨⟨y⟩⟩ := b
  simp
theorem set_block {w : World} {b o : Nat} {cur : Array Value} {T : TypeId} {r : Nat × Nat} (h : w.heap[b]? = some (.cells cur T r)) (v : Value) : (w.setCell ⟨b, o, none⟩ v).heap[b]? = some (.cells (cur.setIfInBounds o v) T r) := by
  obtain ⟨hlt, hk⟩ := Array.getElem?_eq_some_iff.1 h
  show (w.heap.modify b _)[b]? = _
  rw [Array.getElem?_eq_getElem (by rw [Array.size_modify]; exact hlt), Array.getElem_modify_self, hk]
  rfl
theorem set_other {w : World} {b j : Nat} {o : Nat} {v : Value} (h : j ≠ b) : (w.setCell ⟨b, o, none⟩ v).heap[j]? = w.heap[j]? := Below.heap_setCell _ _ _ _ h
theorem results_cell_tmp {P : Program} {fn : Func} {p q : Tmp} {ty : TypeId} (h : fn.results = #[.cell p ty, .tmp q]) (tmps : Array Value) (w : World) (g : Nat) (t : TypeId) (cs : Array Value) (fr : Nat × Nat) (d : TypeDesc)
    (hp : tmps.getD p undef = .pointer (some ⟨g, 0, none⟩)) (hg : w.heap[g]? = some (.cells cs t fr))
    (hu : P.underlying ty = some d) (hd : (match d with | .struct _ | .array _ _ => true | _ => false) = true) (hi : (P.info? ty).map (·.size) = some cs.size) :
    (results fn tmps).run P w = .ok (.tuple #[.agg cs, tmps.getD q undef]) w := by
  have hp' : tmps[p]?.getD undef = .pointer (some ⟨g, 0, none⟩) := by simpa using hp
  simp [results, h, hp', asAddr, run_loadVar_row w g t ty cs fr d hg hu hd hi]
theorem results_cell {P : Program} {fn : Func} {p : Tmp} {ty : TypeId} (h : fn.results = #[.cell p ty]) (tmps : Array Value) (w : World) (g : Nat) (t : TypeId) (cs : Array Value) (fr : Nat × Nat) (d : TypeDesc)
    (hp : tmps.getD p undef = .pointer (some ⟨g, 0, none⟩)) (hg : w.heap[g]? = some (.cells cs t fr))
    (hu : P.underlying ty = some d) (hd : (match d with | .struct _ | .array _ _ => true | _ => false) = true) (hi : (P.info? ty).map (·.size) = some cs.size) :
    (results fn tmps).run P w = .ok (.agg cs) w := by
  have hp' : tmps[p]?.getD undef = .pointer (some ⟨g, 0, none⟩) := by simpa using hp
  simp [results, h, hp', asAddr, run_loadVar_row w g t ty cs fr d hg hu hd hi]
/-- Nothing old has turned but some blocks. -/
structure But (l : List Nat) (w w' : World) : Prop where
  os : w'.os = w.os
  tape : w'.tape = w.tape
  output : w'.output = w.output
  size : w.heap.size ≤ w'.heap.size
  block : ∀ j, j < w.heap.size → j ∉ l → w'.heap[j]? = w.heap[j]?
theorem But.refl (l : List Nat) (w : World) : But l w w := ⟨rfl, rfl, rfl, Nat.le_refl _, fun _ _ _ => rfl⟩
theorem But.trans {l : List Nat} {a b c : World} (h : But l a b) (k : But l b c) : But l a c :=
  ⟨k.os.trans h.os, k.tape.trans h.tape, k.output.trans h.output, Nat.le_trans h.size k.size, fun j hj hl => (k.block j (by have := h.size; omega) hl).trans (h.block j hj hl)⟩
theorem But.of {l : List Nat} {w w' : World} (h : Below w.heap.size w w') : But l w w' := ⟨h.os, h.tape, h.output, h.size, fun j hj _ => h.block j hj⟩
theorem But.set {l : List Nat} {w w' : World} (h : But l w w') (a : Addr) (v : Value) (ha : a.block ∈ l) : But l w (w'.setCell a v) :=
  ⟨h.os, h.tape, h.output, by simpa using h.size, fun j hj hl => (Below.heap_setCell _ _ _ _ (fun e => hl (by rw [e]; exact ha))).trans (h.block j hj hl)⟩
theorem But.alloc {l : List Nat} {w w' : World} (h : But l w w') (o : Obj) : But l w (w'.alloc o) := h.trans (But.of ((Below.refl _ _).alloc (Nat.le_refl _) o))
theorem But.drew {l : List Nat} {w w' : World} (h : But l w w') : But l w w'.drew := h.trans (But.of (Below.refl _ _).drew)
theorem But.below {l : List Nat} {w w' w2 : World} (h : But l w w') (k : Below w'.heap.size w' w2) : But l w w2 := h.trans (But.of k)
theorem But.grown {l : List Nat} {w w' w2 : World} {row : Option Nat} (h : But l w w') (hg : w'.grownBy w2 row) (hr : ∀ j, row = some j → j ∈ l) : But l w w2 :=
  ⟨hg.os.trans h.os, hg.tape.trans h.tape, hg.output.trans h.output, Nat.le_trans h.size hg.size, fun j hj hl => (hg.block j (by have := h.size; omega) (fun e => hl (hr j e.symm))).trans (h.block j hj hl)⟩
theorem But.sub {l l' : List Nat} {w w' : World} (h : But l w w') (hs : ∀ j, j ∈ l → j < w.heap.size → j ∈ l') : But l' w w' := ⟨h.os, h.tape, h.output, h.size, fun j hj hl => h.block j hj (fun q => hl (hs j q hj))⟩
theorem But.toBelow {l : List Nat} {n : Nat} {w w' : World} (h : But l w w') (hn : n ≤ w.heap.size) (hl : ∀ j, j ∈ l → n ≤ j) : Below n w w' :=
  ⟨h.os, h.tape, h.output, h.size, fun j hj => h.block j (by omega) (fun q => by have := hl j q; omega)⟩
theorem But.heap {l : List Nat} {w w' : World} (h : But l w w') {j : Nat} {o : Obj} (hj : w.heap[j]? = some o) (hl : j ∉ l) : w'.heap[j]? = some o := by
  rw [h.block j ((Array.getElem?_eq_some_iff.1 hj).1) hl]; exact hj
/-- A box of one cell. -/
def Box (w : World) (b : Nat) (t : TypeId) (v : Value) : Prop := w.heap[b]? = some (.cells #[v] t (0, 0))
theorem Box.cell {w : World} {b : Nat} {t : TypeId} {v : Value} (h : Box w b t v) : w.cell? ⟨b, 0, none⟩ = some v := by unfold Box at h; simp [World.cell?, h]
theorem Box.frozen {w : World} {b : Nat} {t : TypeId} {v : Value} (h : Box w b t v) : w.frozen? ⟨b, 0, none⟩ = false := by unfold Box at h; simp [World.frozen?, h]
theorem Box.lt {w : World} {b : Nat} {t : TypeId} {v : Value} (h : Box w b t v) : b < w.heap.size := (Array.getElem?_eq_some_iff.1 h).1
theorem Box.kept {w w' : World} {b n : Nat} {t : TypeId} {v : Value} (h : Box w b t v) (hb : b < n) (hB : Below n w w') : Box w' b t v := (hB.block b hb).trans h
theorem Box.set {w : World} {b : Nat} {t : TypeId} {v : Value} (h : Box w b t v) (v' : Value) : Box (w.setCell ⟨b, 0, none⟩ v') b t v' := set_block h v'
end Go.Proofs.YtdomglkcfecnnaaGreat
